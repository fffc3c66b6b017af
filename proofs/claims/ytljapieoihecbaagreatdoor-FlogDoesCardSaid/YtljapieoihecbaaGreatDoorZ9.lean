/- Part 9 of the proof: the machine, the tables and the pure laws that the last text joins. -/
import Derived.Test.YtljapieoihecbaaGreatDoorZ8
import Derived.Test.YtljapieoihecbaaGreatDoorZ4
/- Texts as numbers: plain Lean; the program's and the reference's; the two laws. -/
set_option linter.unusedVariables false
set_option linter.unusedSimpArgs false
namespace Go.Proofs.YtljapieoihecbaaGreatDoor.D
open Go Go.Proofs.YtljapieoihecbaaGreatDoor.K
open Go.Proofs.YtljapieoihecbaaGreatDoor.P (nat val divmod small val_nat nat_zero nat_eq_nil nat_val_length nat_length_le len_mono val_lt nat_inj sgnv powR powV nat_one wS wA wD nat_ten_len inC ten ten_len decT decT_len decT_ne decT_good decT_dv dv_lt dv good dig dig_le dv_nil dv_snoc dv_append dv_cons)
def z0 : Rt := (false, [], [])
theorem pt_cut_len {c : UInt8} {s : List UInt8} {k : Nat} (h : pos c s = some k) : (s.take k ++ s.drop (k + 1)).length + 1 = s.length := by
  have := pos_lt h
  simp; omega
def decV (s : List UInt8) : Rt × Int :=
  cond (!dg (cutV 46 s).1 || ((cutV 46 s).2.2 && !dg (cutV 46 s).2.1)) (z0, 10) (cond (decide (s.length > 400)) (z0, 9) (make (false, nat (dv ((cutV 46 s).1 ++ (cutV 46 s).2.1))) (false, nat (10 ^ (cutV 46 s).2.1.length))))
theorem cut_len (c : UInt8) (s : List UInt8) : (cutV c s).1.length + (cutV c s).2.1.length ≤ s.length := by
  unfold cutV
  cases h : pos c s with
  | none => simp
  | some k => have := pt_cut_len h; simp only [List.length_append] at this; simp only; omega
theorem cut_no {c : UInt8} {s : List UInt8} (h : (cutV c s).2.2 = false) : (cutV c s).2.1 = [] := by
  unfold cutV at h ⊢
  cases hp : pos c s with
  | none => rfl
  | some k => rw [hp] at h; cases h
theorem good_append (a b : List UInt8) : good (a ++ b) = (good a && good b) := by unfold good; rw [List.all_append]
theorem parse_good {s : List UInt8} (hg : good s = true) (h0 : s ≠ []) (hl : s.length ≤ 400) : parseV s = (nat (dv s), 0) := by rw [parseV, if_neg (by simp [h0, hg]), if_neg (by omega)]
theorem mkF (n : Nat) : mkW false n = (false, nat n) := rfl
theorem xDec (s : List UInt8) (hs : s.length ≤ 100000) : numtext_Decimal s = some (decV s) := by
  have hc := cut_len 46 s
  have hno := @cut_no 46 s
  have key : ∀ (a b : List UInt8) (pt : Bool), a.length + b.length ≤ s.length → (pt = false → b = []) → dg a = true → (pt = true → dg b = true) → numtext_Decimal_1 s a b false z0 = some (cond (decide (s.length > 400)) (z0, 9) (make (false, nat (dv (a ++ b))) (false, nat (10 ^ b.length)))) := by
    intro a b pt hab hb ha hb2
    rw [numtext_Decimal_1_eq, cond_false]
    by_cases hl : s.length > 400
    · rw [cT (decide_eq_true (by omega)), decide_eq_true hl]; rfl
    · have ha' : good a = true ∧ a ≠ [] := by simpa [dg] using ha
      have hgb : good b = true := by
        cases pt with
        | false => rw [hb rfl]; rfl
        | true => have : good b = true ∧ b ≠ [] := by simpa [dg] using hb2 rfl
                  exact this.1
      have hgab : good (a ++ b) = true := by rw [good_append, ha'.1, hgb]; rfl
      have hp : parseV (a ++ b) = (nat (dv (a ++ b)), 0) := parse_good hgab (by simp [ha'.2]) (by simp; omega)
      have hdl := nat_ten_len (dv_lt (a ++ b) hgab)
      have hpl := pow_small (b := 10) (by omega) b.length
      simp only [List.length_append] at hdl
      rw [cF (decide_eq_false (by omega)), cT (Nat.ble_eq_true_of_le (by omega)), xParse _ (by simp; omega), Option.bind_some, hp]
      simp only
      rw [cF (by rfl), xWMake _ _ (by omega), Option.bind_some, show numtext_power 10 (b.length : Int) = _ from xPower (b := 10) (by omega) (by omega) (by omega), Option.bind_some, xWMake _ _ (by omega), Option.bind_some, mkF, mkF, val_nat, val_nat, xMake _ _ (by simp only; omega) (by simp only; omega), Option.bind_some, decide_eq_false hl, cond_false]
  rw [numtext_Decimal_eq, xCut 46 s (by omega), Option.bind_some, xDigits _ (by omega), Option.bind_some, decV]
  generalize hcv : cutV 46 s = cv at hc hno
  obtain ⟨a, b, pt⟩ := cv
  simp only at hc hno ⊢
  cases ha : dg a with
  | false => rw [cT (by rfl), numtext_Decimal_1_eq]; rfl
  | true =>
    rw [cF (by rfl)]
    cases pt with
    | false =>
      rw [cond_false]
      exact key a b false hc (fun _ => hno rfl) ha (fun h => by cases h)
    | true =>
      rw [cond_true, xDigits _ (by omega), Option.bind_some]
      cases hb : dg b with
      | false => rw [numtext_Decimal_1_eq]; rfl
      | true => exact key a b true hc (fun h => by cases h) ha (fun _ => hb)
theorem yDec (s : List UInt8) (hs : s.length ≤ 100000) : abacistref07_Decimal s = some (decV s) := by
  have hc := cut_len 46 s
  have hno := @cut_no 46 s
  have key : ∀ (a b : List UInt8) (pt : Bool), a.length + b.length ≤ s.length → (pt = false → b = []) → dg a = true → (pt = true → dg b = true) → abacistref07_Decimal_2 s a b false z0 = some (cond (decide (s.length > 400)) (z0, 9) (make (false, nat (dv (a ++ b))) (false, nat (10 ^ b.length)))) := by
    intro a b pt hab hb ha hb2
    rw [abacistref07_Decimal_2_eq, cond_false]
    by_cases hl : s.length > 400
    · rw [cT (decide_eq_true (by omega)), decide_eq_true hl]; rfl
    · have ha' : good a = true ∧ a ≠ [] := by simpa [dg] using ha
      have hgb : good b = true := by
        cases pt with
        | false => rw [hb rfl]; rfl
        | true => have : good b = true ∧ b ≠ [] := by simpa [dg] using hb2 rfl
                  exact this.1
      have hgab : good (a ++ b) = true := by rw [good_append, ha'.1, hgb]; rfl
      have hp : parseV (a ++ b) = (nat (dv (a ++ b)), 0) := parse_good hgab (by simp [ha'.2]) (by simp; omega)
      have hdl := nat_ten_len (dv_lt (a ++ b) hgab)
      have hpl := pow_small (b := 10) (by omega) b.length
      simp only [List.length_append] at hdl
      rw [cF (decide_eq_false (by omega)), cT (Nat.ble_eq_true_of_le (by omega)), yParse _ (by simp; omega), Option.bind_some, hp]
      simp only
      rw [yWMake _ _ (by omega), Option.bind_some, yPower (b := 10) (t := [10]) rfl (by simp) (by omega) (by omega) (by omega), Option.bind_some, yWMake _ _ (by omega), Option.bind_some, mkF, mkF, val_nat, val_nat, yMake _ _ (by simp only; omega) (by simp only; omega), Option.bind_some, decide_eq_false hl, cond_false]
  have after : ∀ (v : Int) (a b : List UInt8) (pt : Bool), decide (v ≥ 0) = pt → a.length + b.length ≤ s.length → (pt = false → b = []) → abacistref07_Decimal_1 s v a b z0 = some (cond (!dg a || (pt && !dg b)) (z0, 10) (cond (decide (s.length > 400)) (z0, 9) (make (false, nat (dv (a ++ b))) (false, nat (10 ^ b.length))))) := by
    intro v a b pt hv hab hb
    rw [abacistref07_Decimal_1_eq, yDigits _ (by omega), Option.bind_some, hv]
    cases ha : dg a with
    | false => rw [cT (by rfl), abacistref07_Decimal_2_eq]; rfl
    | true =>
      rw [cF (by rfl)]
      cases pt with
      | false =>
        rw [cond_false]
        exact key a b false hab hb ha (fun h => by cases h)
      | true =>
        rw [cond_true, yDigits _ (by omega), Option.bind_some]
        cases hb2 : dg b with
        | false => rw [abacistref07_Decimal_2_eq]; rfl
        | true => exact key a b true hab hb ha (fun _ => hb2)
  rw [abacistref07_Decimal_eq, show abacistref07_find s 46 = _ from yFind s 46 (by omega), Option.bind_some, decV, findV]
  unfold cutV at hc hno ⊢
  cases hp : pos 46 s with
  | none =>
    rw [hp] at hc
    simp only at hc ⊢
    rw [cF (by rfl)]
    exact after (-1) s [] false (by rfl) (by simp) (fun _ => rfl)
  | some k =>
    rw [hp] at hc
    have hk := pos_lt hp
    simp only at hc ⊢
    rw [cT (decide_eq_true (by omega)), cT (inC (by omega)), wS (by omega), cT (inC (by omega)), Int.toNat_natCast, Int.toNat_natCast]
    exact after _ _ _ true (decide_eq_true (by omega)) hc (fun h => by cases h)
def fracV (a b : List UInt8) : Rt × Int :=
  cond (decide ((parseV a).2 = 3) || decide ((parseV b).2 = 3)) (z0, 10) (cond (!decide ((parseV a).2 = 0) || !decide ((parseV b).2 = 0)) (z0, 9) (make (false, (parseV a).1) (false, (parseV b).1)))
theorem parse_or (s : List UInt8) : parseV s = ([], 3) ∨ parseV s = ([], 9) ∨ ∃ n, (nat n).length ≤ 400 ∧ parseV s = (nat n, 0) := by
  rw [parseV]
  by_cases h : s = [] ∨ good s = false
  · rw [if_pos h]; exact .inl rfl
  · rw [if_neg h]
    by_cases hl : s.length > 400
    · rw [if_pos hl]; exact .inr (.inl rfl)
    · have hg : good s = true := by
        cases hg : good s with
        | true => rfl
        | false => exact absurd (.inr hg) h
      rw [if_neg hl]
      exact .inr (.inr ⟨dv s, Nat.le_trans (nat_ten_len (dv_lt s hg)) (by omega), rfl⟩)
theorem xFrac (a b : List UInt8) (ha : a.length ≤ 100000) (hb : b.length ≤ 100000) : numtext_fraction a b = some (fracV a b) := by
  rw [numtext_fraction_eq, xParse _ (by omega), Option.bind_some, xParse _ (by omega), Option.bind_some, fracV]
  simp only [numtext_fraction_1_eq, numtext_fraction_2_eq]
  rcases parse_or a with h | h | ⟨n, hn, h⟩ <;> rcases parse_or b with k | k | ⟨m, hm, k⟩ <;> rw [h, k] <;> first
    | rfl
    | (simp only
       rw [xWMake _ _ (by omega), xWMake _ _ (by omega)]
       simp only [Option.bind_some, mkF, val_nat]
       rw [xMake _ _ (by simp only; omega) (by simp only; omega)]
       rfl)
theorem yFrac (a b : List UInt8) (ha : a.length ≤ 100000) (hb : b.length ≤ 100000) : abacistref07_fraction a b = some (fracV a b) := by
  rw [abacistref07_fraction_eq, yParse _ (by omega), Option.bind_some, yParse _ (by omega), Option.bind_some, fracV]
  simp only [abacistref07_fraction_1_eq, abacistref07_fraction_2_eq]
  rcases parse_or a with h | h | ⟨n, hn, h⟩ <;> rcases parse_or b with k | k | ⟨m, hm, k⟩ <;> rw [h, k] <;> first
    | rfl
    | (simp only
       rw [yWMake _ _ (by omega), yWMake _ _ (by omega)]
       simp only [Option.bind_some, mkF, val_nat]
       rw [yMake _ _ (by simp only; omega) (by simp only; omega)]
       rfl)
def bodyV (t : List UInt8) : Rt × Int := cond (cutV 47 t).2.2 (fracV (cutV 47 t).1 (cutV 47 t).2.1) (decV t)
def parseN (s : List UInt8) : Rt × Int := cond (decide ((bodyV (preV 45 s).1).2 = 0) && (preV 45 s).2) (negR (bodyV (preV 45 s).1).1, (bodyV (preV 45 s).1).2) (bodyV (preV 45 s).1)
theorem xParseN (s : List UInt8) (hs : s.length ≤ 100000) : numtext_Parse s = some (parseN s) := by
  have hl := pre_len 45 s
  have hc := cut_len 47 (preV 45 s).1
  have tail : ∀ (q : Rt × Int) (neg : Bool), numtext_Parse_1 neg q.2 (false, [], []) q.1 = some (cond (decide (q.2 = 0) && neg) (negR q.1, q.2) q) := by
    intro q neg
    simp only [numtext_Parse_1_eq, numtext_Parse_2_eq, numtext_Parse_3_eq, xNeg, Option.bind_some]
    cases decide (q.2 = 0) <;> cases neg <;> rfl
  rw [numtext_Parse_eq, xPre, Option.bind_some, xCut 47 _ (by omega), Option.bind_some, xFrac _ _ (by omega) (by omega), xDec _ (by omega), Option.bind_some, Option.bind_some, tail, tail, parseN, bodyV]
  cases (cutV 47 (preV 45 s).1).2.2 <;> rfl
theorem yParseN (s : List UInt8) (hs : s.length ≤ 100000) : abacistref07_Parse s = some (parseN s) := by
  have tail : ∀ (q : Rt × Int) (neg : Bool), abacistref07_Parse_3 neg q.2 (false, [], []) q.1 = some (cond (decide (q.2 = 0) && neg) (negR q.1, q.2) q) := by
    intro q neg
    simp only [abacistref07_Parse_3_eq, abacistref07_Parse_4_eq, abacistref07_Parse_5_eq, yNeg, Option.bind_some]
    cases decide (q.2 = 0) <;> cases neg <;> rfl
  have body : ∀ (t : List UInt8) (neg : Bool), t.length ≤ 100000 → abacistref07_Parse_2 t neg (false, [], []) = some (cond (decide ((bodyV t).2 = 0) && neg) (negR (bodyV t).1, (bodyV t).2) (bodyV t)) := by
    intro t neg ht
    rw [abacistref07_Parse_2_eq, yDec _ (by omega), Option.bind_some, show abacistref07_find t 47 = _ from yFind t 47 (by omega), Option.bind_some, findV, bodyV, cutV]
    cases hp : pos 47 t with
    | none =>
      simp only
      rw [cF (by rfl), tail]; rfl
    | some k =>
      have hk := pos_lt hp
      simp only
      rw [cT (decide_eq_true (by omega)), cT (inC (by omega)), wS (by omega), cT (inC (by omega)), Int.toNat_natCast, Int.toNat_natCast, yFrac _ _ (by simp; omega) (by simp; omega), Option.bind_some, tail]; rfl
  rw [abacistref07_Parse_eq, parseN]
  cases s with
  | nil => rw [cF (by rfl), abacistref07_Parse_1_eq, cond_false, body _ _ (by simp)]; rfl
  | cons b t =>
    rw [cT (decide_eq_true (by simp)), cT (by simp), List.getD_cons_zero, abacistref07_Parse_1_eq]
    simp only [List.length_cons] at hs
    by_cases h : b = 45
    · subst h
      rw [cT (by rfl), cT (by simp; omega), body _ _ (by simp; omega)]; rfl
    · have hd : decide ((b.toNat : Int) = 45) = false := decide_eq_false fun e => h (UInt8.toNat_inj.1 (by show b.toNat = 45; omega))
      rw [hd, cond_false, body _ _ (by simp; omega)]
      simp only [preV, if_neg h]
end Go.Proofs.YtljapieoihecbaaGreatDoor.D
namespace Go.Proofs.YtljapieoihecbaaGreatDoor.K
open Go
end Go.Proofs.YtljapieoihecbaaGreatDoor.K
/- Values: plain Lean; the program's and the reference's. -/
namespace Go.Proofs.YtljapieoihecbaaGreatDoor.D
open Go Go.Proofs.YtljapieoihecbaaGreatDoor.K
open Go.Proofs.YtljapieoihecbaaGreatDoor.P (nat val val_nat nat_zero nat_eq_nil nat_inj nat_one wS inC dv good dig dig_le decT decT_good decT_ne)
abbrev Vl := Int × (Bool × List UInt8 × List UInt8) × List UInt8 × Bool × Int
def eqV (v w : Vl) : Bool := (decide (v.1 = w.1)) && ((v.2.1.1 == w.2.1.1) && ((decide (v.2.1.2.1 = w.2.1.2.1)) && ((decide (v.2.1.2.2 = w.2.1.2.2)) && ((decide (v.2.2.1 = w.2.2.1)) && ((v.2.2.2.1 == w.2.2.2.1) && (decide (v.2.2.2.2 = w.2.2.2.2)))))))
theorem eqV_eq (v w : Vl) : eqV v w = decide (v = w) := by
  obtain ⟨a, ⟨b, c, d⟩, e, f, g⟩ := v
  obtain ⟨a', ⟨b', c', d'⟩, e', f', g'⟩ := w
  unfold eqV
  rw [Bool.eq_iff_iff]
  simp only [Bool.and_eq_true, decide_eq_true_eq, beq_iff_eq, Prod.mk.injEq]
  constructor
  · rintro ⟨h1, h2, h3, h4, h5, h6, h7⟩; exact ⟨h1, ⟨h2, h3, h4⟩, h5, h6, h7⟩
  · rintro ⟨h1, ⟨h2, h3, h4⟩, h5, h6, h7⟩; exact ⟨h1, h2, h3, h4, h5, h6, h7⟩
def blank : Vl := (0, (false, [], []), [], false, 0)
def pl1 (b : UInt8) : Bool := decide (32 ≤ b.toNat) && decide (b.toNat ≤ 126)
def plainV (s : List UInt8) : Bool := s.all pl1 && decide (s.length ≤ 200)
theorem all_drop {p : UInt8 → Bool} {s : List UInt8} {i : Nat} (h : i < s.length) : (s.drop i).all p = (p (s.getD i 0) && (s.drop (i + 1)).all p) := by rw [getD_drop h, List.all_cons]
theorem xPlain1 (s : List UInt8) (hs : s.length ≤ 9223372036854775807) : ∀ (m i : Nat), i + m = s.length → value_plain_1 s (s.map fun b => (b.toNat : Int)) ((s.map fun b => (b.toNat : Int)).length : Int) (i : Int) = some ((s.drop i).all pl1 && decide (s.length ≤ 200))
  | 0, i, h => by
    rw [value_plain_1_eq, cF (decide_eq_false (by rw [List.length_map]; omega)), List.drop_of_length_le (by omega)]
    exact congrArg some (decide_eq_decide.2 (by omega))
  | m + 1, i, h => by
    have hi : i < s.length := by omega
    have hg : (s.map fun b => (b.toNat : Int)).getD (i : Int).toNat 0 = ((s.getD i 0).toNat : Int) := by simp [List.getD, hi]
    have next : value_plain_2 s (s.map fun b => (b.toNat : Int)) ((s.map fun b => (b.toNat : Int)).length : Int) (i : Int) false = some ((s.drop (i + 1)).all pl1 && decide (s.length ≤ 200)) := by
      rw [value_plain_2_eq, cond_false, wS (by omega)]; exact xPlain1 s hs m (i + 1) (by omega)
    have stop : value_plain_2 s (s.map fun b => (b.toNat : Int)) ((s.map fun b => (b.toNat : Int)).length : Int) (i : Int) true = some false := by rw [value_plain_2_eq, cond_true]
    rw [value_plain_1_eq, cT (decide_eq_true (by rw [List.length_map]; omega)), cT (by rw [List.length_map]; exact ix hi), hg, all_drop hi]
    generalize s.getD i 0 = c
    by_cases h1 : c.toNat < 32
    · rw [cT (decide_eq_true (by omega)), stop, show pl1 c = false by unfold pl1; simp; omega]; rfl
    · rw [cF (decide_eq_false (by omega))]
      by_cases h2 : c.toNat > 126
      · rw [decide_eq_true (show (c.toNat : Int) > 126 by omega), stop, show pl1 c = false by unfold pl1; simp; omega]; rfl
      · rw [decide_eq_false (show ¬ (c.toNat : Int) > 126 by omega), next, show pl1 c = true by unfold pl1; simp; omega]; rfl
theorem xPlain (s : List UInt8) (hs : s.length ≤ 9223372036854775807) : value_plain s = some (plainV s) := (value_plain_eq s).trans (xPlain1 s hs s.length 0 (Nat.zero_add _))
theorem yPlain1 (s : List UInt8) (hs : s.length ≤ 200) : ∀ (m i : Nat), i + m = s.length → abacistref08_Plain_1 s (i : Int) = some ((s.drop i).all pl1)
  | 0, i, h => by
    rw [abacistref08_Plain_1_eq, cF (decide_eq_false (by omega)), List.drop_of_length_le (by omega)]; rfl
  | m + 1, i, h => by
    have hi : i < s.length := by omega
    have next : abacistref08_Plain_2 s (i : Int) false = some ((s.drop (i + 1)).all pl1) := by
      rw [abacistref08_Plain_2_eq, cond_false, wS (by omega)]; exact yPlain1 s hs m (i + 1) (by omega)
    have stop : abacistref08_Plain_2 s (i : Int) true = some false := by rw [abacistref08_Plain_2_eq, cond_true]
    rw [abacistref08_Plain_1_eq, cT (decide_eq_true (by omega)), cT (ix hi), cT (ix hi), Int.toNat_natCast, all_drop hi]
    generalize s.getD i 0 = c
    by_cases h1 : c.toNat < 32
    · rw [cT (decide_eq_true (by omega)), stop, show pl1 c = false by unfold pl1; simp; omega]; rfl
    · rw [cF (decide_eq_false (by omega))]
      by_cases h2 : c.toNat > 126
      · rw [decide_eq_true (show (c.toNat : Int) > 126 by omega), stop, show pl1 c = false by unfold pl1; simp; omega]; rfl
      · rw [decide_eq_false (show ¬ (c.toNat : Int) > 126 by omega), next, show pl1 c = true by unfold pl1; simp; omega]; rfl
theorem yPlain (s : List UInt8) : abacistref08_Plain s = some (plainV s) := by
  rw [abacistref08_Plain_eq]
  by_cases h : s.length ≤ 200
  · have := yPlain1 s h s.length 0 (Nat.zero_add _)
    rw [cF (decide_eq_false (by omega)), plainV, decide_eq_true h, Bool.and_true]; exact this
  · rw [cT (decide_eq_true (by omega)), plainV, decide_eq_false h, Bool.and_false]
def namesL : List (List UInt8) := [[], [35, 68, 73, 86, 47, 48, 33], [35, 86, 65, 76, 85, 69, 33], [35, 82, 69, 70, 33], [35, 78, 65, 77, 69, 63], [35, 78, 85, 77, 33], [35, 78, 47, 65], [35, 67, 73, 82, 67, 33]]
def isF (n : Int) : Bool := decide (1 ≤ n) && decide (n ≤ 7)
def nameV (n : Int) : List UInt8 := cond (isF n) (namesL.getD n.toNat []) []
theorem isF_cases {n : Int} (h : isF n = true) : n = 1 ∨ n = 2 ∨ n = 3 ∨ n = 4 ∨ n = 5 ∨ n = 6 ∨ n = 7 := by
  unfold isF at h
  simp at h
  omega
theorem isF_not {n : Int} (h : isF n = false) : n < 1 ∨ 7 < n := by
  unfold isF at h
  simp at h
  omega
theorem xName (n : Int) : value_Name n = some (nameV n) := by
  rw [value_Name_eq, value_Name_1_eq, nameV]
  by_cases h0 : n < 0
  · rw [cT (decide_eq_true h0), value_Name_2_eq, show isF n = false by unfold isF; simp; omega]; rfl
  · rw [cF (decide_eq_false h0), value_Name_2_eq]
    by_cases h8 : n ≥ 8
    · rw [cT (decide_eq_true h8), show isF n = false by unfold isF; simp; omega]; rfl
    · rw [cF (decide_eq_false h8), cT (by simp; omega)]
      by_cases hz : n = 0
      · subst hz; rfl
      · rw [show isF n = true by unfold isF; simp; omega]; rfl
def namedF (s : List UInt8) : Nat → Nat → Int × Bool
  | 0, _ => (0, false)
  | m + 1, i => if 0 < i ∧ namesL.getD i [] = s then ((i : Int), true) else namedF s m (i + 1)
theorem xNamed1 (s : List UInt8) : ∀ (m i : Nat), i + m = 8 → value_Named_2 s [] [35, 68, 73, 86, 47, 48, 33] [35, 86, 65, 76, 85, 69, 33] [35, 82, 69, 70, 33] [35, 78, 65, 77, 69, 63] [35, 78, 85, 77, 33] [35, 78, 47, 65] [35, 67, 73, 82, 67, 33] (i : Int) = some (namedF s m i)
  | 0, i, h => by rw [value_Named_2_eq, cF (decide_eq_false (by omega))]; rfl
  | m + 1, i, h => by
    have next : value_Named_3 s (i : Int) [] [35, 68, 73, 86, 47, 48, 33] [35, 86, 65, 76, 85, 69, 33] [35, 82, 69, 70, 33] [35, 78, 65, 77, 69, 63] [35, 78, 85, 77, 33] [35, 78, 47, 65] [35, 67, 73, 82, 67, 33] (i : Int) false = some (namedF s m (i + 1)) := by
      rw [value_Named_3_eq, cond_false, wS (by omega), xNamed1 s m (i + 1) (by omega)]
    rw [value_Named_2_eq, cT (decide_eq_true (by omega)), cT (by simp; omega), Int.toNat_natCast, namedF]
    by_cases h0 : 0 < i
    · rw [cT (decide_eq_true (by omega))]
      by_cases hs : namesL.getD i [] = s
      · rw [if_pos ⟨h0, hs⟩, decide_eq_true (show (([[], [35, 68, 73, 86, 47, 48, 33], [35, 86, 65, 76, 85, 69, 33], [35, 82, 69, 70, 33], [35, 78, 65, 77, 69, 63], [35, 78, 85, 77, 33], [35, 78, 47, 65], [35, 67, 73, 82, 67, 33]] : List (List UInt8)).getD i []) = s from hs), value_Named_3_eq, cond_true]
      · rw [if_neg (fun h => hs h.2), decide_eq_false (show ¬ (([[], [35, 68, 73, 86, 47, 48, 33], [35, 86, 65, 76, 85, 69, 33], [35, 82, 69, 70, 33], [35, 78, 65, 77, 69, 63], [35, 78, 85, 77, 33], [35, 78, 47, 65], [35, 67, 73, 82, 67, 33]] : List (List UInt8)).getD i []) = s from hs), next]
    · rw [cF (decide_eq_false (by omega)), if_neg (fun h => h0 h.1), next]
def namedV (s : List UInt8) : Int × Bool := namedF s 7 1
theorem xNamed (s : List UInt8) : value_Named s = some (namedV s) := by
  rw [value_Named_eq, value_Named_1_eq]
  exact xNamed1 s 8 0 rfl
def vNum (r : Rt) : Vl := (1, well r, [], false, 0)
def vFault (n : Int) : Vl := (4, (false, [], []), [], false, cond (isF n) n 2)
def vText (s : List UInt8) : Vl := cond (plainV s) (2, (false, [], []), s, false, 0) (vFault 2)
def vTruth (b : Bool) : Vl := (3, (false, [], []), [], b, 0)
theorem xvNum (r : Rt) : value_Num r = some (vNum r) := by
  rw [value_Num_eq, xRight, Option.bind_some, xROf 0 (by omega) (by omega), Option.bind_some, vNum, well, show ofI 0 = (false, [], [1]) by unfold ofI; rw [Int.natAbs_zero, nat_zero]; rfl]
  simp only [value_Num_1_eq]
  cases right r <;> rfl
theorem yvNum (r : Rt) : abacistref08_Num r = some (vNum r) := by rw [abacistref08_Num_eq, yWell]; rfl
theorem nameV_nil (n : Int) : decide (nameV n = []) = !isF n := by
  unfold nameV
  cases hf : isF n with
  | true => rcases isF_cases hf with h | h | h | h | h | h | h <;> subst h <;> rfl
  | false => rfl
theorem xvFault (n : Int) : value_Fault n = some (vFault n) := by
  rw [value_Fault_eq, xName, Option.bind_some, nameV_nil, vFault]
  simp only [value_Fault_1_eq]
  cases isF n <;> rfl
theorem yvFault (n : Int) : abacistref08_Fault n = some (vFault n) := by
  rw [abacistref08_Fault_eq, vFault]
  simp only [abacistref08_Fault_1_eq, abacistref08_Fault_2_eq]
  cases hf : isF n with
  | true => rcases isF_cases hf with h | h | h | h | h | h | h <;> subst h <;> rfl
  | false =>
    rcases isF_not hf with h | h
    · rw [cT (decide_eq_true h)]; rfl
    · rw [cF (decide_eq_false (by omega)), decide_eq_true (show n > 7 by omega)]; rfl
theorem xvText (s : List UInt8) (hs : s.length ≤ 9223372036854775807) : value_Text s = some (vText s) := by
  rw [value_Text_eq, xPlain s hs, Option.bind_some, xvFault, Option.bind_some, vText]
  cases plainV s <;> rfl
theorem yvText (s : List UInt8) : abacistref08_Text s = some (vText s) := by
  rw [abacistref08_Text_eq, yPlain s, Option.bind_some, yvFault, Option.bind_some, vText]
  cases plainV s <;> rfl
theorem xvTruth (b : Bool) : value_Truth b = some (vTruth b) := value_Truth_eq b
theorem yvTruth (b : Bool) : abacistref08_Truth b = some (vTruth b) := abacistref08_Truth_eq b
def vRight (v : Vl) : Bool :=
  cond (decide (v.1 = 0)) (decide (v = blank)) (cond (decide (v.1 = 1)) (decide (v = vNum v.2.1)) (cond (decide (v.1 = 2)) (decide (v = vText v.2.2.1)) (cond (decide (v.1 = 3)) (decide (v = vTruth v.2.2.2.1)) (cond (decide (v.1 = 4)) (decide (v = vFault v.2.2.2.2)) false))))
theorem xvRight (v : Vl) (hs : v.2.2.1.length ≤ 9223372036854775807) : value_Right v = some (vRight v) := by
  rw [value_Right_eq, xvNum, xvText _ hs, xvTruth, xvFault, vRight]
  simp only [Option.bind_some]
  show cond _ (some (eqV v blank)) (cond _ (some (eqV v (vNum v.2.1))) (cond _ (some (eqV v (vText v.2.2.1))) (cond _ (some (eqV v (vTruth v.2.2.2.1))) (cond _ (some (eqV v (vFault v.2.2.2.2))) _)))) = _
  simp only [eqV_eq]
  cases decide (v.1 = 0) <;> cases decide (v.1 = 1) <;> cases decide (v.1 = 2) <;> cases decide (v.1 = 3) <;> cases decide (v.1 = 4) <;> rfl
theorem well_iff (r : Rt) : well r = r ↔ right r = true := by
  constructor
  · intro h; rw [← h]; exact right_well r
  · exact well_of_right
theorem yvRight (v : Vl) : abacistref08_Right v = some (vRight v) := by
  rw [abacistref08_Right_eq, yRight, yPlain, Option.bind_some, Option.bind_some, vRight]
  show cond _ (some (eqV v blank)) (cond _ (cond (right v.2.1) (some (eqV v (1, v.2.1, [], false, 0))) _) (cond _ (cond (plainV v.2.2.1) (some (eqV v (2, (false, [], []), v.2.2.1, false, 0))) _) (cond _ (some (eqV v (3, (false, [], []), [], v.2.2.2.1, 0))) (cond _ (cond _ (cond _ (some (eqV v (4, (false, [], []), [], false, v.2.2.2.2))) _) _) _)))) = _
  simp only [eqV_eq]
  by_cases h0 : v.1 = 0
  · rw [cT (decide_eq_true h0), cT (decide_eq_true h0)]
  rw [cF (decide_eq_false h0), cF (decide_eq_false h0)]
  by_cases h1 : v.1 = 1
  · rw [cT (decide_eq_true h1), cT (decide_eq_true h1)]
    cases hr : right v.2.1 with
    | true => rw [cond_true, vNum, well_of_right hr]
    | false =>
      rw [cond_false, decide_eq_false]
      intro h
      have h' := congrArg (fun x : Vl => x.2.1) h
      simp only [vNum] at h'
      rw [(well_iff _).1 h'.symm] at hr; cases hr
  rw [cF (decide_eq_false h1), cF (decide_eq_false h1)]
  by_cases h2 : v.1 = 2
  · rw [cT (decide_eq_true h2), cT (decide_eq_true h2)]
    cases hr : plainV v.2.2.1 with
    | true => rw [cond_true, vText, hr, cond_true]
    | false =>
      rw [cond_false, decide_eq_false]
      intro h
      have h' := congrArg (fun x : Vl => x.1) h
      simp only [vText, hr, cond_false, vFault] at h'
      omega
  rw [cF (decide_eq_false h2), cF (decide_eq_false h2)]
  by_cases h3 : v.1 = 3
  · rw [cT (decide_eq_true h3), cT (decide_eq_true h3)]; rfl
  rw [cF (decide_eq_false h3), cF (decide_eq_false h3)]
  by_cases h4 : v.1 = 4
  · rw [cT (decide_eq_true h4), cT (decide_eq_true h4)]
    cases hr : isF v.2.2.2.2 with
    | true =>
      have hr' := isF_cases hr
      rw [cT (decide_eq_true (by omega)), cT (decide_eq_true (by omega)), vFault, hr, cond_true]
    | false =>
      have hne : decide (v = vFault v.2.2.2.2) = false := by
        refine decide_eq_false fun h => ?_
        have h' := congrArg (fun x : Vl => x.2.2.2.2) h
        simp only [vFault, hr, cond_false] at h'
        rw [h'] at hr; cases hr
      rw [hne]
      rcases isF_not hr with h | h
      · rw [cF (decide_eq_false (by omega))]
      · rw [cT (decide_eq_true (by omega)), cF (decide_eq_false (by omega))]
  rw [cF (decide_eq_false h4), cF (decide_eq_false h4)]
def textR (r : Rt) : List UInt8 := textF (well r).1 (val (well r).2.1) (val (well r).2.2)
def tTRUE : List UInt8 := [84, 82, 85, 69]
def tFALSE : List UInt8 := [70, 65, 76, 83, 69]
def vShow (v : Vl) : List UInt8 := cond (!vRight v) [] (cond (decide (v.1 = 1)) (textR v.2.1) (cond (decide (v.1 = 3)) (cond v.2.2.2.1 tTRUE tFALSE) (cond (decide (v.1 = 4)) (nameV v.2.2.2.2) v.2.2.1)))
theorem right_kind {v : Vl} (h : vRight v = true) : v.1 = 0 ∨ v.1 = 1 ∨ v.1 = 2 ∨ v.1 = 3 ∨ v.1 = 4 := by
  by_cases h0 : v.1 = 0
  · exact .inl h0
  by_cases h1 : v.1 = 1
  · exact .inr (.inl h1)
  by_cases h2 : v.1 = 2
  · exact .inr (.inr (.inl h2))
  by_cases h3 : v.1 = 3
  · exact .inr (.inr (.inr (.inl h3)))
  by_cases h4 : v.1 = 4
  · exact .inr (.inr (.inr (.inr h4)))
  unfold vRight at h
  rw [decide_eq_false h0, decide_eq_false h1, decide_eq_false h2, decide_eq_false h3, decide_eq_false h4] at h
  cases h
theorem right0 {v : Vl} (h : vRight v = true) (hk : v.1 = 0) : v = blank := by
  unfold vRight at h
  rw [decide_eq_true hk] at h
  exact of_decide_eq_true h
theorem right1 {v : Vl} (h : vRight v = true) (hk : v.1 = 1) : v = vNum v.2.1 := by
  unfold vRight at h
  rw [decide_eq_false (show ¬ v.1 = 0 by omega), decide_eq_true hk] at h
  exact of_decide_eq_true h
theorem right2 {v : Vl} (h : vRight v = true) (hk : v.1 = 2) : v = vText v.2.2.1 := by
  unfold vRight at h
  rw [decide_eq_false (show ¬ v.1 = 0 by omega), decide_eq_false (show ¬ v.1 = 1 by omega), decide_eq_true hk] at h
  exact of_decide_eq_true h
theorem right3 {v : Vl} (h : vRight v = true) (hk : v.1 = 3) : v = vTruth v.2.2.2.1 := by
  unfold vRight at h
  rw [decide_eq_false (show ¬ v.1 = 0 by omega), decide_eq_false (show ¬ v.1 = 1 by omega), decide_eq_false (show ¬ v.1 = 2 by omega), decide_eq_true hk] at h
  exact of_decide_eq_true h
theorem right4 {v : Vl} (h : vRight v = true) (hk : v.1 = 4) : v = vFault v.2.2.2.2 := by
  unfold vRight at h
  rw [decide_eq_false (show ¬ v.1 = 0 by omega), decide_eq_false (show ¬ v.1 = 1 by omega), decide_eq_false (show ¬ v.1 = 2 by omega), decide_eq_false (show ¬ v.1 = 3 by omega), decide_eq_true hk] at h
  exact of_decide_eq_true h
end Go.Proofs.YtljapieoihecbaaGreatDoor.D
/- Texts of cells: plain Lean; the program's and the reference's; the two laws of values. -/
namespace Go.Proofs.YtljapieoihecbaaGreatDoor.D
open Go Go.Proofs.YtljapieoihecbaaGreatDoor.K
open Go.Proofs.YtljapieoihecbaaGreatDoor.P (nat val val_nat nat_zero nat_eq_nil nat_inj nat_one wS inC dv good dig dig_le decT decT_good decT_ne)
def litV (s : List UInt8) : Vl × Int :=
  cond (decide (s.length > 300)) (blank, 9) (cond (decide (s = [])) (blank, 0) (cond (decide (s = tTRUE) || decide (s = tFALSE)) (vTruth (decide (s = tTRUE)), 0)
    (cond (namedV s).2 (vFault (namedV s).1, 0) (cond (decide ((parseN s).2 = 0)) (vNum (parseN s).1, 0) (cond (plainV (preV 39 s).1) (vText (preV 39 s).1, 0) (blank, 10))))))
theorem xvLit (s : List UInt8) : value_Literal s = some (litV s) := by
  rw [value_Literal_eq, litV]
  by_cases hl : s.length > 300
  · rw [cT (decide_eq_true (by omega)), decide_eq_true hl]; rfl
  rw [cF (decide_eq_false (by omega)), cF (decide_eq_false hl)]
  by_cases h0 : s = []
  · rw [cT (decide_eq_true h0), cT (decide_eq_true h0)]; rfl
  rw [cF (decide_eq_false h0), cF (decide_eq_false h0)]
  have hp := pre_len 39 s
  have tail : value_Literal_1 s false blank = some (cond (namedV s).2 (vFault (namedV s).1, 0) (cond (decide ((parseN s).2 = 0)) (vNum (parseN s).1, 0) (cond (plainV (preV 39 s).1) (vText (preV 39 s).1, 0) (blank, 10)))) := by
    rw [value_Literal_1_eq, cond_false, xNamed, Option.bind_some, xvFault, Option.bind_some, xParseN s (by omega), Option.bind_some, xvNum, Option.bind_some, xPre, Option.bind_some, xPlain _ (by omega), Option.bind_some, xvText _ (by omega), Option.bind_some]
    cases (namedV s).2 <;> cases decide ((parseN s).2 = 0) <;> cases plainV (preV 39 s).1 <;> rfl
  have head : ∀ b, value_Literal_1 s true b = some (vTruth (decide (s = tTRUE)), 0) := by
    intro b
    rw [value_Literal_1_eq, cond_true, xvTruth]; rfl
  show cond (decide (s = tTRUE)) (value_Literal_1 s true blank) (value_Literal_1 s (decide (s = tFALSE)) blank) = _
  by_cases h1 : s = tTRUE
  · rw [cT (decide_eq_true h1), head, decide_eq_true h1]; rfl
  · rw [cF (decide_eq_false h1), decide_eq_false h1, Bool.false_or]
    by_cases h2 : s = tFALSE
    · rw [decide_eq_true h2, head, decide_eq_false h1]; rfl
    · rw [decide_eq_false h2, cond_false]
      exact tail
theorem show_len (v : Vl) : (vShow v).length ≤ 200 := by
  unfold vShow
  cases hr : vRight v with
  | false => simp
  | true =>
    rcases right_kind hr with h | h | h | h | h
    · rw [right0 hr h]; simp [blank]
    · rw [h]
      obtain ⟨s, n, d, e, f⟩ := well_form v.2.1
      have := text_len f
      simp only [Bool.not_true, cond_false, decide_true, cond_true, textR, e, val_nat]
      omega
    · have hv := right2 hr h
      rw [h]
      simp only [Bool.not_true, cond_false]
      cases hp : plainV v.2.2.1 with
      | true =>
        unfold plainV at hp
        simp only [Bool.and_eq_true, decide_eq_true_eq] at hp
        exact hp.2
      | false =>
        rw [vText, hp, cond_false] at hv
        have := congrArg (fun x : Vl => x.1) hv
        simp only [vFault] at this
        omega
    · rw [h]
      cases v.2.2.2.1 <;> simp [tTRUE, tFALSE]
    · rw [h]
      simp only [Bool.not_true, cond_false]
      unfold nameV
      cases hf : isF v.2.2.2.2 with
      | false => simp
      | true => rcases isF_cases hf with h | h | h | h | h | h | h <;> rw [h] <;> simp [namesL]
theorem right_num (r : Rt) : vRight (vNum r) = true := by
  unfold vRight vNum
  rw [well_well]
  simp
theorem right_fault {n : Int} (h : isF n = true) : vRight (vFault n) = true := by
  unfold vRight vFault
  rw [h]
  simp [h]
theorem right_truth (b : Bool) : vRight (vTruth b) = true := by
  unfold vRight vTruth
  simp
theorem right_text {s : List UInt8} (h : plainV s = true) : vRight (vText s) = true := by
  unfold vRight vText
  rw [h]
  simp [h]
end Go.Proofs.YtljapieoihecbaaGreatDoor.D
namespace Go.Proofs.YtljapieoihecbaaGreatDoor.K
open Go
end Go.Proofs.YtljapieoihecbaaGreatDoor.K
/- Values as others: plain Lean; the program's and the reference's; two of the laws. -/
namespace Go.Proofs.YtljapieoihecbaaGreatDoor.D
open Go Go.Proofs.YtljapieoihecbaaGreatDoor.K
open Go.Proofs.YtljapieoihecbaaGreatDoor.P (nat val val_nat nat_zero nat_eq_nil nat_inj nat_one wS inC dv good dig dig_le decT decT_good decT_ne)
def cFault (v : Vl) : Int := cond (vRight v) v.2.2.2.2 2
theorem right_len {v : Vl} (h : vRight v = true) : v.2.2.1.length ≤ 200 := by
  have h2 := show_len v
  rcases right_kind h with k | k | k | k | k
  · rw [right0 h k]; simp [blank]
  · rw [right1 h k]; simp [vNum]
  · have : vShow v = v.2.2.1 := by unfold vShow; rw [h, k]; rfl
    rw [← this]; omega
  · rw [right3 h k]; simp [vTruth]
  · rw [right4 h k]; simp [vFault]
theorem xcFault (v : Vl) (hs : v.2.2.1.length ≤ 9223372036854775807) : coerce_cell_fault v = some (cFault v) := by
  rw [coerce_cell_fault_eq, xvRight v hs, Option.bind_some, cFault]
  cases vRight v <;> rfl
theorem ycFault (v : Vl) : abacistref09_fault v = some (cFault v) := by
  rw [abacistref09_fault_eq, yvRight v, Option.bind_some, cFault]
  cases vRight v <;> rfl
theorem fault_right {v : Vl} (h : cFault v = 0) : vRight v = true := by
  unfold cFault at h
  cases hr : vRight v with
  | true => rfl
  | false => rw [hr] at h; cases h
theorem fault_kind {v : Vl} (h : cFault v = 0) : v = blank ∨ v = vNum v.2.1 ∨ (v = vText v.2.2.1 ∧ plainV v.2.2.1 = true ∧ v.1 = 2) ∨ v = vTruth v.2.2.2.1 := by
  have hr := fault_right h
  rcases right_kind hr with k | k | k | k | k
  · exact .inl (right0 hr k)
  · exact .inr (.inl (right1 hr k))
  · refine .inr (.inr (.inl ⟨right2 hr k, ?_, k⟩))
    cases hp : plainV v.2.2.1 with
    | true => rfl
    | false =>
      have hv := right2 hr k
      rw [vText, hp, cond_false] at hv
      have := congrArg (fun x : Vl => x.1) hv
      simp only [vFault] at this
      omega
  · exact .inr (.inr (.inr (right3 hr k)))
  · exfalso
    have hv := right4 hr k
    unfold cFault at h
    rw [hr, cond_true] at h
    have := congrArg (fun x : Vl => x.2.2.2.2) hv
    simp only [vFault] at this
    rw [h, show isF 0 = false from rfl, cond_false] at this
    cases this
def numV (v : Vl) : Rt × Int :=
  cond (!decide (cFault v = 0)) (z0, cFault v) (cond (decide (v.1 = 1)) (v.2.1, 0) (cond (decide (v.1 = 2)) (cond (!decide ((parseN v.2.2.1).2 = 0)) (z0, 2) ((parseN v.2.2.1).1, 0)) (ofI (cond v.2.2.2.1 1 0), 0)))
theorem xcNum (v : Vl) (hs : v.2.2.1.length ≤ 9223372036854775807) : coerce_Num v = some (numV v) := by
  rw [coerce_Num_eq, xcFault v hs, Option.bind_some, numV]
  by_cases h : cFault v = 0
  · have hl := right_len (fault_right h)
    simp only [h, decide_true, Bool.not_true, cond_false]
    rw [xParseN _ (by omega), Option.bind_some, coerce_bit_eq]
    have e : (cond v.2.2.2.1 (some 1) (some 0) : Option Int).bind (fun v3 => (rat_Of v3).bind fun v4 => some (v4, (0 : Int))) = some (ofI (cond v.2.2.2.1 1 0), 0) := by
      cases v.2.2.2.1
      · show (rat_Of 0).bind _ = _
        rw [xROf 0 (by omega) (by omega)]; rfl
      · show (rat_Of 1).bind _ = _
        rw [xROf 1 (by omega) (by omega)]; rfl
    rw [e]
    cases decide (v.1 = 1) <;> cases decide (v.1 = 2) <;> cases decide ((parseN v.2.2.1).2 = 0) <;> rfl
  · rw [cT (by rw [decide_eq_false h]; rfl), cT (by rw [decide_eq_false h]; rfl)]; rfl
theorem ycNum (v : Vl) : abacistref09_Num v = some (numV v) := by
  rw [abacistref09_Num_eq, ycFault v, Option.bind_some, Option.bind_some, numV]
  by_cases h : cFault v = 0
  · have hl := right_len (fault_right h)
    simp only [h, decide_true, Bool.not_true, cond_false]
    rw [yParseN _ (by omega), Option.bind_some, yROf 0 (by omega) (by omega), yROf 1 (by omega) (by omega)]
    rcases fault_kind h with k | k | ⟨k, _, k2⟩ | k
    · rw [k]; rfl
    · rw [k]; rfl
    · rw [k2]
      cases decide ((parseN v.2.2.1).2 = 0) <;> rfl
    · rw [k]; cases v.2.2.2.1 <;> rfl
  · rw [cT (by rw [decide_eq_false h]; rfl), cT (by rw [decide_eq_false h]; rfl)]; rfl
def truthV (v : Vl) : Bool × Int :=
  cond (!decide (cFault v = 0)) (false, cFault v) (cond (decide (v.1 = 1)) (!decide (signR (well v.2.1) = 0), 0) (cond (decide (v.1 = 2)) (cond (decide (v.2.2.1 = tTRUE) || decide (v.2.2.1 = tFALSE)) (decide (v.2.2.1 = tTRUE), 0) (false, 2)) (v.2.2.2.1, 0)))
theorem lit_truth_kind {s : List UInt8} (hl : s.length ≤ 300) : (decide ((litV s).2 = 0) && decide ((litV s).1.1 = 3)) = (decide (s = tTRUE) || decide (s = tFALSE)) := by
  unfold litV
  rw [decide_eq_false (by omega : ¬ s.length > 300), cond_false]
  by_cases h0 : s = []
  · subst h0; rfl
  · rw [decide_eq_false h0, cond_false]
    cases decide (s = tTRUE) || decide (s = tFALSE) with
    | true => rfl
    | false =>
      rw [cond_false]
      cases (namedV s).2 with
      | true => rfl
      | false =>
        rw [cond_false]
        cases decide ((parseN s).2 = 0) with
        | true => rfl
        | false =>
          rw [cond_false]
          cases hp : plainV (preV 39 s).1 with
          | true => rw [cond_true, vText, hp]; rfl
          | false => rfl
theorem xcTruth (v : Vl) (hs : v.2.2.1.length ≤ 9223372036854775807) : coerce_Truth v = some (truthV v) := by
  rw [coerce_Truth_eq, xcFault v hs, Option.bind_some, truthV]
  by_cases h : cFault v = 0
  · have hl := right_len (fault_right h)
    have hk := lit_truth_kind (s := v.2.2.1) (by omega)
    simp only [h, decide_true, Bool.not_true, cond_false]
    rw [xSign, Option.bind_some, xvLit, Option.bind_some, ← hk]
    simp only [coerce_Truth_1_eq]
    cases decide (v.1 = 1) <;> cases decide (v.1 = 2) <;> cases decide ((litV v.2.2.1).2 = 0) <;> cases decide ((litV v.2.2.1).1.1 = 3) <;> rfl
  · rw [cT (by rw [decide_eq_false h]; rfl), cT (by rw [decide_eq_false h]; rfl)]
theorem ycTruth (v : Vl) : abacistref09_Truth v = some (truthV v) := by
  rw [abacistref09_Truth_eq, ycFault v, Option.bind_some, Option.bind_some, truthV, ySign, Option.bind_some]
  simp only [abacistref09_Truth_1_eq]
  show cond _ _ (cond _ _ (cond _ (cond (!decide (v.2.2.1 = tTRUE)) (cond (!decide (v.2.2.1 = tFALSE)) _ (some (decide (v.2.2.1 = tTRUE), 0))) (cond false _ (some (decide (v.2.2.1 = tTRUE), 0)))) _)) = _
  cases decide (cFault v = 0) <;> cases decide (v.1 = 1) <;> cases decide (v.1 = 2) <;> cases decide (v.2.2.1 = tTRUE) <;> cases decide (v.2.2.1 = tFALSE) <;> rfl
def likeV (v : Vl) (k : Int) : Vl := cond (!decide (v.1 = 0)) v (cond (decide (k = 1)) (vNum (ofI 0)) (cond (decide (k = 2)) (vText []) (cond (decide (k = 3)) (vTruth false) v)))
theorem xLike (v : Vl) (k : Int) : coerce_like v k = some (likeV v k) := by
  rw [coerce_like_eq, xROf 0 (by omega) (by omega), Option.bind_some, xvNum, xvText _ (by simp), xvTruth, likeV]
  cases decide (v.1 = 0) <;> cases decide (k = 1) <;> cases decide (k = 2) <;> cases decide (k = 3) <;> rfl
end Go.Proofs.YtljapieoihecbaaGreatDoor.D
namespace Go.Proofs.YtljapieoihecbaaGreatDoor.K
open Go
end Go.Proofs.YtljapieoihecbaaGreatDoor.K
/- Values held against each other: plain Lean; the program's and the reference's. -/
namespace Go.Proofs.YtljapieoihecbaaGreatDoor.D
open Go Go.Proofs.YtljapieoihecbaaGreatDoor.K
open Go.Proofs.YtljapieoihecbaaGreatDoor.P (nat val val_nat nat_zero nat_eq_nil nat_inj nat_one wS inC dv good dig dig_le decT decT_good decT_ne)
theorem icmp_cases (x y : Int) : (x < y ∧ icmp x y = -1) ∨ (x = y ∧ icmp x y = 0) ∨ (y < x ∧ icmp x y = 1) := by
  unfold icmp
  by_cases h1 : x < y
  · exact .inl ⟨h1, if_pos h1⟩
  · rw [if_neg h1]
    by_cases h2 : x = y
    · exact .inr (.inl ⟨h2, if_pos h2⟩)
    · exact .inr (.inr ⟨by omega, if_neg h2⟩)
theorem icmp_neg (x y : Int) : icmp y x = - icmp x y := by
  rcases icmp_cases x y with ⟨h, e⟩ | ⟨h, e⟩ | ⟨h, e⟩ <;> rcases icmp_cases y x with ⟨h', e'⟩ | ⟨h', e'⟩ | ⟨h', e'⟩ <;> omega
def bcmp : List UInt8 → List UInt8 → Int
  | [], [] => 0
  | [], _ :: _ => -1
  | _ :: _, [] => 1
  | a :: s, b :: t => cond (decide (a = b)) (bcmp s t) (icmp a.toNat b.toNat)
theorem bcmp_cons (a b : UInt8) (s t : List UInt8) : bcmp (a :: s) (b :: t) = cond (decide (a = b)) (bcmp s t) (icmp a.toNat b.toNat) := rfl
theorem u8_ne {a b : UInt8} (h : ¬ a = b) : a.toNat ≠ b.toNat := fun h' => h (UInt8.toNat_inj.1 h')
theorem bcmp_neg : ∀ s t : List UInt8, bcmp t s = - bcmp s t
  | [], [] => rfl
  | [], _ :: _ => rfl
  | _ :: _, [] => rfl
  | a :: s, b :: t => by
    unfold bcmp
    by_cases h : a = b
    · subst h; rw [decide_eq_true rfl, cond_true, cond_true]; exact bcmp_neg s t
    · rw [decide_eq_false h, decide_eq_false (fun h' => h h'.symm), cond_false, cond_false]; exact icmp_neg _ _
theorem bless : ∀ s t : List UInt8, Op.bytesLess s t = decide (bcmp s t < 0)
  | [], [] => rfl
  | [], _ :: _ => rfl
  | _ :: _, [] => rfl
  | a :: s, b :: t => by
    unfold Op.bytesLess bcmp
    by_cases h : a = b
    · subst h
      rw [decide_eq_true rfl, cond_true, bless s t]
      have : decide (a < a) = false := decide_eq_false (UInt8.lt_irrefl a)
      rw [this]; simp
    · rw [decide_eq_false h, cond_false]
      have hb : (a == b) = false := by simp [h]
      rw [hb, Bool.false_and, Bool.or_false]
      refine decide_eq_decide.2 ?_
      rw [UInt8.lt_iff_toNat_lt]
      have := u8_ne h
      rcases icmp_cases a.toNat b.toNat with ⟨h, e⟩ | ⟨h, e⟩ | ⟨h, e⟩ <;> omega
theorem bcmp_zero : ∀ s t : List UInt8, bcmp s t = 0 ↔ s = t
  | [], [] => by simp [bcmp]
  | [], _ :: _ => by simp [bcmp]
  | _ :: _, [] => by simp [bcmp]
  | a :: s, b :: t => by
    unfold bcmp
    by_cases h : a = b
    · subst h; rw [decide_eq_true rfl, cond_true, bcmp_zero s t]; simp
    · rw [decide_eq_false h, cond_false]
      have := u8_ne h
      rcases icmp_cases a.toNat b.toNat with ⟨h', e⟩ | ⟨h', e⟩ | ⟨h', e⟩ <;> simp [h] <;> omega
theorem bcmp_range : ∀ s t : List UInt8, bcmp s t = -1 ∨ bcmp s t = 0 ∨ bcmp s t = 1
  | [], [] => by simp [bcmp]
  | [], _ :: _ => by simp [bcmp]
  | _ :: _, [] => by simp [bcmp]
  | a :: s, b :: t => by
    unfold bcmp
    by_cases h : a = b
    · subst h; rw [decide_eq_true rfl, cond_true]; exact bcmp_range s t
    · rw [decide_eq_false h, cond_false]
      rcases icmp_cases a.toNat b.toNat with ⟨h', e⟩ | ⟨h', e⟩ | ⟨h', e⟩ <;> omega
theorem xcInt (a b : Int) : cmp_Compare_int a b = some (icmp a b) := by
  rw [cmp_Compare_int_eq, cmp_isNaN_int_eq, cmp_isNaN_int_eq, Option.bind_some, Option.bind_some]
  simp only [decide_true, Bool.not_true, cond_false]
  rcases icmp_cases a b with ⟨h, e⟩ | ⟨h, e⟩ | ⟨h, e⟩
  · rw [cT (decide_eq_true h), e]
  · rw [cF (decide_eq_false (by omega)), cF (decide_eq_false (by omega)), e]
  · rw [cF (decide_eq_false (by omega)), cT (decide_eq_true (by omega)), e]
theorem xcInt64 (a b : Int) : cmp_Compare_int64 a b = some (icmp a b) := by
  rw [cmp_Compare_int64_eq, cmp_isNaN_int64_eq, cmp_isNaN_int64_eq, Option.bind_some, Option.bind_some]
  simp only [decide_true, Bool.not_true, cond_false]
  rcases icmp_cases a b with ⟨h, e⟩ | ⟨h, e⟩ | ⟨h, e⟩
  · rw [cT (decide_eq_true h), e]
  · rw [cF (decide_eq_false (by omega)), cF (decide_eq_false (by omega)), e]
  · rw [cF (decide_eq_false (by omega)), cT (decide_eq_true (by omega)), e]
theorem xcStr (s t : List UInt8) : cmp_Compare_string s t = some (bcmp s t) := by
  rw [cmp_Compare_string_eq, cmp_isNaN_string_eq, cmp_isNaN_string_eq, Option.bind_some, Option.bind_some]
  simp only [decide_true, Bool.not_true, cond_false]
  rw [bless]
  have hz := bcmp_zero s t
  rcases bcmp_range s t with e | e | e
  · rw [cT (decide_eq_true (by omega)), e]
  · rw [cF (decide_eq_false (by omega)), cF (by rw [decide_eq_true (hz.1 e), Bool.or_true]; rfl), e]
  · have hne : ¬ s = t := fun h => by have := hz.2 h; omega
    rw [cF (decide_eq_false (by omega)), cT (by rw [decide_eq_false (show ¬ bcmp s t < 0 by omega), decide_eq_false hne]; rfl), e]
theorem xcOr (a b : Int) : cmp_Or_int [a, b] = some (cond (decide (a = 0)) b a) := by
  have e3 : cmp_Or_int_1 0 [a, b] 2 2 = some 0 := by rw [cmp_Or_int_1_eq]; rfl
  have e2 : cmp_Or_int_1 0 [a, b] 2 1 = some b := by
    rw [cmp_Or_int_1_eq]
    show cond (!decide (b = 0)) (some b) (cmp_Or_int_1 0 [a, b] 2 2) = _
    rw [e3]
    by_cases h : b = 0
    · rw [decide_eq_true h, h]; rfl
    · rw [decide_eq_false h]; rfl
  rw [cmp_Or_int_eq, cmp_Or_int_1_eq]
  show cond (!decide (a = 0)) (some a) (cmp_Or_int_1 0 [a, b] 2 1) = _
  rw [e2]
  cases decide (a = 0) <;> rfl
theorem ycOrder (a b : Int) : abacistref09_order a b = some (icmp a b) := by
  rw [abacistref09_order_eq]
  rcases icmp_cases a b with ⟨h, e⟩ | ⟨h, e⟩ | ⟨h, e⟩
  · rw [cT (decide_eq_true h), e]
  · rw [cF (decide_eq_false (by omega)), cF (decide_eq_false (by omega)), e]
  · rw [cF (decide_eq_false (by omega)), cT (decide_eq_true (by omega)), e]
theorem bcmp_nil_r (s : List UInt8) : bcmp s [] = icmp (s.length : Int) 0 := by
  cases s with
  | nil => rfl
  | cons a s => 
    show (1 : Int) = _
    rcases icmp_cases ((a :: s).length : Int) 0 with ⟨h, e⟩ | ⟨h, e⟩ | ⟨h, e⟩ <;> simp only [List.length_cons] at h e ⊢ <;> omega
theorem bcmp_nil_l (s : List UInt8) : bcmp [] s = icmp 0 (s.length : Int) := by
  rw [bcmp_neg, bcmp_nil_r, icmp_neg 0]; omega
theorem icmp_sub {x y k : Int} : icmp (x - k) (y - k) = icmp x y := by
  rcases icmp_cases x y with ⟨h, e⟩ | ⟨h, e⟩ | ⟨h, e⟩ <;> rcases icmp_cases (x - k) (y - k) with ⟨h', e'⟩ | ⟨h', e'⟩ | ⟨h', e'⟩ <;> omega
theorem ycBytes1 (s t : List UInt8) (hs : s.length ≤ 200) (ht : t.length ≤ 200) : ∀ (m i : Nat), i + m = s.length → i ≤ t.length → abacistref09_bytes_1 s t (i : Int) = some (bcmp (s.drop i) (t.drop i)) := by
  have stop : ∀ i : Nat, i ≤ s.length → i ≤ t.length → (i = s.length ∨ i = t.length) → abacistref09_bytes_2 s t (i : Int) false = some (bcmp (s.drop i) (t.drop i)) := by
    intro i h1 h2 h
    rw [abacistref09_bytes_2_eq, cond_false, ycOrder, Option.bind_some]
    rcases h with h | h
    · rw [show s.drop i = [] from List.drop_of_length_le (by omega), bcmp_nil_l, List.length_drop, ← icmp_sub (k := (i : Int))]
      congr 2 <;> omega
    · rw [show t.drop i = [] from List.drop_of_length_le (by omega), bcmp_nil_r, List.length_drop, ← icmp_sub (k := (i : Int))]
      congr 2 <;> omega
  intro m
  induction m with
  | zero =>
    intro i h h2
    rw [abacistref09_bytes_1_eq, cF (decide_eq_false (by omega))]
    exact stop i (by omega) h2 (.inl (by omega))
  | succ m ih =>
    intro i h h2
    have hi : i < s.length := by omega
    rw [abacistref09_bytes_1_eq, cT (decide_eq_true (by omega))]
    by_cases hj : i < t.length
    · rw [decide_eq_true (show (i : Int) < (t.length : Int) by omega), abacistref09_bytes_2_eq, cond_true, cT (ix hi), cT (ix hj), Int.toNat_natCast, cT (ix hi), cT (ix hj), wS (by omega), ih (i + 1) (by omega) (by omega), getD_drop hi, getD_drop hj]
      generalize s.getD i 0 = a
      generalize t.getD i 0 = b
      have la := a.toNat_lt
      have lb := b.toNat_lt
      rw [bcmp_cons]
      by_cases hab : a = b
      · subst hab
        rw [cF (by rw [decide_eq_true rfl]; rfl), decide_eq_true rfl]; rfl
      · have := u8_ne hab
        rw [cT (by rw [decide_eq_false (by omega)]; rfl), decide_eq_false hab, cond_false, wrap64 (by omega) (by omega), wrap64 (by omega) (by omega), ycOrder]; rfl
    · rw [decide_eq_false (show ¬ (i : Int) < (t.length : Int) by omega)]
      exact stop i (by omega) (by omega) (.inr (by omega))
theorem ycBytes (s t : List UInt8) (hs : s.length ≤ 200) (ht : t.length ≤ 200) : abacistref09_bytes s t = some (bcmp s t) := by
  rw [abacistref09_bytes_eq]
  exact ycBytes1 s t hs ht s.length 0 (Nat.zero_add _) (Nat.zero_le _)
structure Cl (x : Vl) : Prop where
  t : x.1 = 2 ∨ x.2.2.1 = []
  b : x.1 = 3 ∨ x.2.2.2.1 = false
  l : x.2.2.1.length ≤ 200
  n : x.1 = 0 ∨ x.1 = 1 ∨ x.1 = 2 ∨ x.1 = 3
theorem cl_blank : Cl blank := ⟨.inr rfl, .inr rfl, by simp [blank], .inl rfl⟩
theorem cl_num (r : Rt) : Cl (vNum r) := ⟨.inr rfl, .inr rfl, by simp [vNum], .inr (.inl rfl)⟩
theorem cl_truth (b : Bool) : Cl (vTruth b) := ⟨.inr rfl, .inl rfl, by simp [vTruth], .inr (.inr (.inr rfl))⟩
theorem cl_text {s : List UInt8} (h : plainV s = true) : Cl (vText s) := by
  rw [vText, h, cond_true]
  refine ⟨.inl rfl, .inr rfl, ?_, .inr (.inr (.inl rfl))⟩
  unfold plainV at h
  simp only [Bool.and_eq_true, decide_eq_true_eq] at h
  exact h.2
theorem cl_of {v : Vl} (h : cFault v = 0) : Cl v := by
  rcases fault_kind h with k | k | ⟨k, hp, k2⟩ | k
  · rw [k]; exact cl_blank
  · rw [k]; exact cl_num _
  · rw [k]; exact cl_text hp
  · rw [k]; exact cl_truth _
theorem cl_like {v : Vl} (h : Cl v) (k : Int) : Cl (likeV v k) := by
  unfold likeV
  cases decide (v.1 = 0)
  · exact h
  · cases decide (k = 1)
    · cases decide (k = 2)
      · cases decide (k = 3)
        · exact h
        · exact cl_truth _
      · exact cl_text (s := []) (by rfl)
    · exact cl_num _
def bitI (b : Bool) : Int := cond b 1 0
def ordV (x y : Vl) : Int := cond (!decide (x.1 = y.1)) (icmp x.1 y.1) (cond (decide (x.1 = 1)) (cmpR x.2.1 y.2.1) (cond (decide (x.1 = 2)) (bcmp x.2.2.1 y.2.2.1) (icmp (bitI x.2.2.2.1) (bitI y.2.2.2.1))))
def cmpV (a b : Vl) : Int × Int := cond (!decide (cFault a = 0)) (0, cFault a) (cond (!decide (cFault b = 0)) (0, cFault b) (ordV (likeV a b.1) (likeV b a.1), 0))
theorem xcBit (b : Bool) : coerce_bit b = some (bitI b) := by rw [coerce_bit_eq]; cases b <;> rfl
theorem ycBit (b : Bool) : abacistref09_bit b = some (bitI b) := by rw [abacistref09_bit_eq]; cases b <;> rfl
theorem xVCmp (a b : Vl) (ha : a.2.2.1.length ≤ 9223372036854775807) (hb : b.2.2.1.length ≤ 9223372036854775807) : coerce_Cmp a b = some (cmpV a b) := by
  rw [coerce_Cmp_eq, coerce_Cmp_1_eq]
  show (coerce_cell_fault a).bind (fun v1 => cond (!decide (v1 = 0)) _ ((coerce_cell_fault b).bind _)) = _
  rw [xcFault a ha, Option.bind_some, xcFault b hb, Option.bind_some, cmpV]
  by_cases h1 : cFault a = 0
  · rw [cF (by rw [decide_eq_true h1]; rfl), cF (by rw [decide_eq_true h1]; rfl), coerce_Cmp_2_eq]
    by_cases h2 : cFault b = 0
    · rw [cF (by rw [decide_eq_true h2]; rfl), cF (by rw [decide_eq_true h2]; rfl), xLike, Option.bind_some, xLike, Option.bind_some]
      have hx := cl_like (cl_of h1) b.1
      have hy := cl_like (cl_of h2) a.1
      revert hx hy
      generalize likeV a b.1 = x
      generalize likeV b a.1 = y
      intro hx hy
      rw [xcInt, Option.bind_some, xRCmp, Option.bind_some, xcStr, Option.bind_some, xcBit, Option.bind_some, xcBit, Option.bind_some, xcInt64, Option.bind_some, xcOr, Option.bind_some, ordV]
      by_cases hk : x.1 = y.1
      · rw [decide_eq_true hk]
        simp only [Bool.not_true, cond_false]
        by_cases hn : x.1 = 1
        · rw [decide_eq_true hn]; rfl
        · rw [decide_eq_false hn]
          simp only [cond_false]
          by_cases ht : x.1 = 2
          · rw [decide_eq_true ht]
            have b1 : x.2.2.2.1 = false := hx.b.resolve_left (by omega)
            have b2 : y.2.2.2.1 = false := hy.b.resolve_left (by omega)
            rw [b1, b2]
            by_cases hz : bcmp x.2.2.1 y.2.2.1 = 0
            · rw [decide_eq_true hz, hz]; rfl
            · rw [decide_eq_false hz]; rfl
          · rw [decide_eq_false ht, hx.t.resolve_left ht, hy.t.resolve_left (by omega)]
            rfl
      · rw [decide_eq_false hk]; rfl
    · rw [cT (by rw [decide_eq_false h2]; rfl), cT (by rw [decide_eq_false h2]; rfl)]
  · rw [cT (by rw [decide_eq_false h1]; rfl), cT (by rw [decide_eq_false h1]; rfl), coerce_Cmp_2_eq, cT (by rw [decide_eq_false h1]; rfl)]
theorem yLike (a b : Vl) : abacistref09_like a b = some (likeV a b.1) := by
  rw [abacistref09_like_eq, yROf 0 (by omega) (by omega), Option.bind_some, yvNum, yvText, yvTruth, likeV]
  cases decide (a.1 = 0) <;> cases decide (b.1 = 1) <;> cases decide (b.1 = 2) <;> cases decide (b.1 = 3) <;> rfl
theorem yVCmp (a b : Vl) : abacistref09_Cmp a b = some (cmpV a b) := by
  rw [abacistref09_Cmp_eq, ycFault a, Option.bind_some, ycFault b, Option.bind_some, Option.bind_some, Option.bind_some, cmpV]
  by_cases h1 : cFault a = 0
  · rw [decide_eq_true h1]
    simp only [Bool.not_true, cond_false]
    by_cases h2 : cFault b = 0
    · rw [decide_eq_true h2]
      simp only [Bool.not_true, cond_false]
      rw [yLike, Option.bind_some, yLike, Option.bind_some]
      have hx := cl_like (cl_of h1) b.1
      have hy := cl_like (cl_of h2) a.1
      revert hx hy
      generalize likeV a b.1 = x
      generalize likeV b a.1 = y
      intro hx hy
      rw [ycOrder, Option.bind_some, yRCmp, Option.bind_some, ycBytes _ _ hx.l hy.l, Option.bind_some, ycBit, Option.bind_some, ycBit, Option.bind_some, ycOrder, Option.bind_some, ordV]
      cases decide (x.1 = y.1) <;> cases decide (x.1 = 1) <;> cases decide (x.1 = 2) <;> rfl
    · rw [decide_eq_false h2]; rfl
  · rw [decide_eq_false h1]; rfl
end Go.Proofs.YtljapieoihecbaaGreatDoor.D
/- Rounding of fractions towards zero, and as small numbers: plain Lean; the program's and the reference's. -/
namespace Go.Proofs.YtljapieoihecbaaGreatDoor.D
open Go Go.Proofs.YtljapieoihecbaaGreatDoor.K
open Go.Proofs.YtljapieoihecbaaGreatDoor.P (nat val divmod small val_nat nat_zero nat_eq_nil nat_val_length nat_length_le len_mono val_lt nat_inj nat_one wS mod_u64 sgnv)
theorem mod_i64 (n : Int) : IntKind.i64.wrap n = (n + 9223372036854775808) % 18446744073709551616 - 9223372036854775808 := by
  simp [IntKind.wrap, IntKind.bits, IntKind.signed]
  omega
def truncR (r : Rt) : Rt := ((well r).1 && !decide (val (well r).2.1 / val (well r).2.2 = 0), nat (val (well r).2.1 / val (well r).2.2), [1])
theorem Fm.quo {s : Bool} {n d : Nat} (h : Fm s n d) : Fm (s && !decide (n / d = 0)) (n / d) 1 := by
  refine ⟨Nat.le_trans (len_mono (Nat.div_le_self n d)) h.nl, by rw [nat_one]; simp, by omega, Nat.gcd_one_right _, fun hq => by rw [hq]; simp⟩
theorem xRdWell (r : Rt) : round_well r = some (well r) := by
  rw [round_well_eq, xRight, Option.bind_some, xROf 0 (by omega) (by omega), Option.bind_some, well, show ofI 0 = (false, [], [1]) by unfold ofI; rw [Int.natAbs_zero, nat_zero]; rfl]
  cases right r <;> rfl
theorem divmod_pos {a b : Nat} (h : 0 < b) : divmod a b = (nat (a / b), nat (a % b), 0) := by unfold Go.Proofs.YtljapieoihecbaaGreatDoor.P.divmod; rw [if_neg (by omega)]
theorem xTrunc (r : Rt) : round_Trunc r = some (truncR r) := by
  obtain ⟨s, n, d, e, f⟩ := well_form r
  have h1 := f.nl
  have h2 := f.dl
  have hq := f.quo
  have hql := hq.nl
  rw [round_Trunc_eq, xRdWell, Option.bind_some, truncR, e]
  simp only [val_nat]
  rw [xDiv _ _ (by omega) (by omega), Option.bind_some, val_nat, val_nat, divmod_pos f.pos]
  simp only [decide_true, Bool.not_true, cond_false]
  rw [xWMake _ _ (by omega), Option.bind_some, val_nat, round_made_eq, xWOf 1 (by omega) (by omega), Option.bind_some]
  have := make_form hq
  rw [nat_one] at this
  show ((rat_Make (s && !decide (n / d = 0), nat (n / d)) (false, nat 1)).bind _).bind _ = _
  rw [nat_one, xMake _ _ (by simp only; omega) (by simp), this]; rfl
theorem yAt_some (a : List UInt8) (ha : a.length ≤ 100000) (i : Nat) (hi : i ≤ 100000) : ∃ v, abacistref01_at a (i : Int) = some v ∧ 0 ≤ v ∧ v ≤ 255 := by
  rw [abacistref01_at_eq]
  by_cases h : (i : Int) ≥ (a.length : Int)
  · rw [cT (decide_eq_true h)]; exact ⟨0, rfl, by omega, by omega⟩
  · have e : IntKind.i64.wrap (IntKind.i64.wrap ((a.length : Int) - 1) - (i : Int)) = ((a.length - 1 - i : Nat) : Int) := by rw [mod_i64, mod_i64]; omega
    rw [cF (decide_eq_false h), e, cT (ix (by omega))]
    have := (a.getD (((a.length - 1 - i : Nat) : Int)).toNat 0).toNat_lt
    refine ⟨_, rfl, ?_, ?_⟩ <;> rw [mod_i64] <;> omega
theorem yTurned1 (l : List Int) (hl : l.length ≤ 100000) : ∀ (m i : Nat) (o : List Int), i + m = l.length → o.length = l.length → ∃ z, abacistref01_turned_1 l (i : Int) o = some z ∧ z.length ≤ l.length
  | 0, i, o, h, ho => by
    rw [abacistref01_turned_1_eq, cF (decide_eq_false (by omega))]
    have hb : (bytesOf o).length = o.length := by unfold bytesOf; simp
    rw [yTrim _ (by omega)]
    exact ⟨_, rfl, by have := nat_val_length (bytesOf o); omega⟩
  | m + 1, i, o, h, ho => by
    have e : IntKind.i64.wrap (IntKind.i64.wrap ((l.length : Int) - 1) - (i : Int)) = ((l.length - 1 - i : Nat) : Int) := by rw [mod_i64, mod_i64]; omega
    rw [abacistref01_turned_1_eq, cT (decide_eq_true (by omega)), cT (ix (by omega)), e, cT (ix (by omega)), wS (by omega)]
    exact yTurned1 l hl m (i + 1) _ (by omega) (by rw [List.length_set]; exact ho)
theorem yTurned (l : List Int) (hl : l.length ≤ 100000) : ∃ z, abacistref01_turned l = some z ∧ z.length ≤ l.length := by
  rw [abacistref01_turned_eq, cT (by simp; omega)]
  exact yTurned1 l hl l.length 0 _ (Nat.zero_add _) (by simp)
theorem ySub1 (a b : List UInt8) (ha : a.length ≤ 10000) (hb : b.length ≤ 10000) : ∀ (m i : Nat) (c : Int) (acc : List Int), max a.length b.length ≤ i + m → i ≤ 20000 → i + m ≤ 20000 → acc.length = i → i ≤ max a.length b.length → (c = 0 ∨ c = 1) → ∃ z, abacistref01_Sub_1 a b c (i : Int) acc = some z ∧ z.length ≤ max a.length b.length := by
  intro m
  induction m with
  | zero =>
    intro i c acc hm hi him hl hle hc
    have stop : abacistref01_Sub_2 a b c (i : Int) false acc = (abacistref01_turned acc).bind fun v3 => some v3 := by rw [abacistref01_Sub_2_eq, cond_false]
    obtain ⟨z, hz, hzl⟩ := yTurned acc (by omega)
    rw [abacistref01_Sub_1_eq, cF (decide_eq_false (by omega)), decide_eq_false (by omega), stop, hz]
    exact ⟨z, rfl, by omega⟩
  | succ m ih =>
    intro i c acc hm hi him hl hle hc
    by_cases hx : i < a.length ∨ i < b.length
    · have go : ∃ z, abacistref01_Sub_2 a b c (i : Int) true acc = some z ∧ z.length ≤ max a.length b.length := by
        obtain ⟨u, hu, u0, u1⟩ := yAt_some a (by omega) i (by omega)
        obtain ⟨v, hv, v0, v1⟩ := yAt_some b (by omega) i (by omega)
        have next : ∀ c' x, (c' = 0 ∨ c' = 1) → ∃ z, abacistref01_Sub_3 a b c' (i : Int) x acc = some z ∧ z.length ≤ max a.length b.length := fun c' x hc' => by
          rw [abacistref01_Sub_3_eq, cT (Nat.ble_eq_true_of_le (by simp only [List.length_cons, List.length_nil]; omega)), wS (by omega)]
          exact ih (i + 1) c' (acc ++ [x]) (by omega) (by omega) (by omega) (by simp; omega) (by omega) hc'
        rw [abacistref01_Sub_2_eq, cond_true, hu, Option.bind_some, hv, Option.bind_some]
        cases decide (IntKind.i64.wrap (IntKind.i64.wrap (u - v) - c) < 0)
        · exact next 0 _ (.inl rfl)
        · exact next 1 _ (.inr rfl)
      rw [abacistref01_Sub_1_eq]
      by_cases h1 : i < a.length
      · rw [cT (decide_eq_true (by omega))]; exact go
      · rw [cF (decide_eq_false (by omega)), decide_eq_true (by omega)]; exact go
    · have stop : abacistref01_Sub_2 a b c (i : Int) false acc = (abacistref01_turned acc).bind fun v3 => some v3 := by rw [abacistref01_Sub_2_eq, cond_false]
      obtain ⟨z, hz, hzl⟩ := yTurned acc (by omega)
      rw [abacistref01_Sub_1_eq, cF (decide_eq_false (by omega)), decide_eq_false (by omega), stop, hz]
      exact ⟨z, rfl, by omega⟩
theorem ySub_some (a b : List UInt8) (ha : a.length ≤ 10000) (hb : b.length ≤ 10000) : ∃ z, abacistref01_Sub a b = some z ∧ z.length ≤ a.length + b.length := by
  rw [abacistref01_Sub_eq, yCmp _ _ (by omega) (by omega), Option.bind_some]
  cases decide (sgnv (val a) (val b) < 0)
  · obtain ⟨z, hz, hl⟩ := ySub1 a b ha hb (max a.length b.length) 0 0 [] (by omega) (by omega) (by omega) rfl (by omega) (.inl rfl)
    exact ⟨z, hz, by omega⟩
  · exact ⟨[], rfl, by simp⟩
theorem mkW_len (s : Bool) (m : List UInt8) : (mkW s (val m)).2.length ≤ m.length := nat_val_length m
theorem yWAdd_some (x y : Wh) (hx : x.2.length ≤ 5000) (hy : y.2.length ≤ 5000) : ∃ z, abacistref04_Add x y = some z ∧ z.2.length ≤ x.2.length + y.2.length + 1 := by
  have l1 := mkW_len x.1 x.2
  have l2 := mkW_len y.1 y.2
  rw [abacistref04_Add_eq, yWWell _ (by omega), Option.bind_some, yWWell _ (by omega), Option.bind_some]
  generalize mkW x.1 (val x.2) = u at *
  generalize mkW y.1 (val y.2) = v at *
  cases u.1 == v.1
  · rw [cond_false, yCmp _ _ (by omega) (by omega), Option.bind_some]
    cases decide (sgnv (val u.2) (val v.2) ≥ 0)
    · obtain ⟨z, hz, hl⟩ := ySub_some v.2 u.2 (by omega) (by omega)
      rw [cond_false, hz, Option.bind_some, yWMake _ _ (by omega)]
      exact ⟨_, rfl, by have := mkW_len u.1 z; have := mkW_len v.1 z; omega⟩
    · obtain ⟨z, hz, hl⟩ := ySub_some u.2 v.2 (by omega) (by omega)
      rw [cond_true, hz, Option.bind_some, yWMake _ _ (by omega)]
      exact ⟨_, rfl, by have := mkW_len u.1 z; have := mkW_len v.1 z; omega⟩
  · have hl : (nat (val u.2 + val v.2)).length ≤ u.2.length + v.2.length + 1 := by
      refine nat_length_le ?_
      have a1 := val_lt u.2
      have a2 := val_lt v.2
      have b1 : (256 : Nat) ^ u.2.length ≤ 256 ^ (u.2.length + v.2.length) := Nat.pow_le_pow_right (by decide) (by omega)
      have b2 : (256 : Nat) ^ v.2.length ≤ 256 ^ (u.2.length + v.2.length) := Nat.pow_le_pow_right (by decide) (by omega)
      rw [Nat.pow_succ]; omega
    rw [cond_true, yAdd _ _ (by omega) (by omega), Option.bind_some, yWMake _ _ (by omega), Option.bind_some]
    exact ⟨_, rfl, by have := mkW_len u.1 (nat (val u.2 + val v.2)); omega⟩
theorem yWSub_some (x y : Wh) (hx : x.2.length ≤ 5000) (hy : y.2.length ≤ 5000) : ∃ z, abacistref04_Sub x y = some z ∧ z.2.length ≤ x.2.length + y.2.length + 1 := by
  rw [abacistref04_Sub_eq, abacistref04_Neg_eq, yWMake _ _ (by omega), Option.bind_some, Option.bind_some]
  have l := mkW_len (!y.1) y.2
  obtain ⟨z, hz, hl⟩ := yWAdd_some x (mkW (!y.1) (val y.2)) hx (by omega)
  rw [hz]
  exact ⟨z, rfl, by omega⟩
theorem yFloor2 (x y q u v : Wh) (hx : x.2.length ≤ 1000) (hy : y.2.length ≤ 1000) (hq : q.2.length ≤ 1000) : ∃ w, abacistref04_Floor_2 x y u v q = some (q, w, 0) := by
  have l := mul_len y.2 q.2
  rw [abacistref04_Floor_2_eq, yWMul _ _ (by omega) (by omega), Option.bind_some]
  have l2 : ∀ s, (mkW s (val y.2 * val q.2)).2.length ≤ 2000 := fun s => by show (nat _).length ≤ _; omega
  obtain ⟨z, hz, _⟩ := yWSub_some x (mkW (!(mkW y.1 (val y.2)).1 == (mkW q.1 (val q.2)).1) (val y.2 * val q.2)) (by omega) (Nat.le_trans (l2 _) (by omega))
  rw [hz]
  exact ⟨z, rfl⟩
theorem yWFloor {s : Bool} {n d : Nat} (f : Fm s n d) : ∃ q w, abacistref04_Floor (s, nat n) (false, nat d) = some (q, w, 0) ∧ q.2.length ≤ 100 ∧ (s = false → q = (false, nat (n / d))) := by
  have h1 := f.nl
  have h2 := f.dl
  have hq := f.quo.nl
  have fd : mkW false d = (false, nat d) := rfl
  rw [abacistref04_Floor_eq, yWWell _ (by simp only; omega), Option.bind_some, yWWell _ (by simp only; omega), Option.bind_some]
  simp only [val_nat, mkW_form f, fd]
  rw [yDiv _ _ (by omega) (by omega), Option.bind_some, val_nat, val_nat, divmod_pos f.pos]
  simp only [decide_true, Bool.not_true, cond_false]
  rw [yWMake _ _ (by omega), Option.bind_some, val_nat]
  cases s with
  | false =>
    obtain ⟨w, hw⟩ := yFloor2 (false, nat n) (false, nat d) (false, nat (n / d)) (false, []) (false, []) (by simp only; omega) (by simp only; omega) (by simp only; omega)
    refine ⟨(false, nat (n / d)), w, ?_, by simp only; omega, fun _ => rfl⟩
    show abacistref04_Floor_1 false (false, nat n) (false, nat d) (false, []) (false, []) (false, nat (n / d)) = _
    rw [abacistref04_Floor_1_eq, cond_false]
    exact hw
  | true =>
    have ql : (mkW true (n / d)).2.length ≤ 32 := hq
    show ∃ q w, abacistref04_Floor_1 (!decide (nat (n % d) = [])) (true, nat n) (false, nat d) (false, []) (false, []) (mkW true (n / d)) = some (q, w, 0) ∧ _
    rw [abacistref04_Floor_1_eq]
    cases decide (nat (n % d) = [])
    · have l1 : (nat (1 : Int).natAbs).length ≤ 1 := by show (nat 1).length ≤ 1; rw [nat_one]; simp
      rw [Bool.not_false, cond_true, yWOf 1 (by omega) (by omega), Option.bind_some]
      obtain ⟨z, hz, hl⟩ := yWSub_some (mkW true (n / d)) (decide ((1 : Int) < 0), nat (1 : Int).natAbs) (by omega) (by simp only; omega)
      rw [hz, Option.bind_some]
      simp only at hl
      obtain ⟨w, hw⟩ := yFloor2 (true, nat n) (false, nat d) z (false, []) (false, []) (by simp only; omega) (by simp only; omega) (by omega)
      exact ⟨z, w, hw, by omega, fun h => by cases h⟩
    · rw [Bool.not_true, cond_false]
      obtain ⟨w, hw⟩ := yFloor2 (true, nat n) (false, nat d) (mkW true (n / d)) (false, []) (false, []) (by simp only; omega) (by simp only; omega) (by omega)
      exact ⟨mkW true (n / d), w, hw, by omega, fun h => by cases h⟩
theorem yFloorR {r : Rt} {s : Bool} {n d : Nat} (e : well r = (s, nat n, nat d)) (f : Fm s n d) : ∃ z, abacistref06_Floor r = some z ∧ (s = false → z = ((false, nat (n / d), [1]), 0)) := by
  obtain ⟨q, w, hf, hl, hs⟩ := yWFloor f
  rw [abacistref06_Floor_eq, yTop e f, Option.bind_some, yLow e f, Option.bind_some, abacistref06_floor_eq, hf, Option.bind_some, Option.bind_some, abacistref06_one_eq, yWOf 1 (by omega) (by omega), Option.bind_some, Option.bind_some]
  show ∃ z, (abacistref05_Make q (false, nat 1)).bind _ = some z ∧ _
  rw [yMake _ _ (by omega) (by rw [nat_one]; simp)]
  refine ⟨_, rfl, fun h => ?_⟩
  subst h
  rw [hs rfl]
  have := make_form f.quo
  rw [Bool.false_and] at this
  rw [this, nat_one]
theorem yTrunc (r : Rt) : abacistref06_Trunc r = some (truncR r) := by
  obtain ⟨s, n, d, e, f⟩ := well_form r
  obtain ⟨z, hz, hs⟩ := yFloorR e f
  rw [abacistref06_Trunc_eq, hz, Option.bind_some, ySign, Option.bind_some, truncR, e]
  simp only [val_nat, signR, nilD]
  cases s with
  | false =>
    rw [hs rfl, cF (by cases decide (n = 0) <;> rfl), abacistref06_Trunc_1_eq]; rfl
  | true =>
    have hn : ¬ n = 0 := fun h => by have := f.z h; cases this
    have f' : Fm false n d := ⟨f.nl, f.dl, f.pos, f.co, fun _ => rfl⟩
    have en : negR r = (false, nat n, nat d) := by unfold negR; rw [e]; rfl
    obtain ⟨z', hz', hs'⟩ := yFloorR (f'.well) f'
    have fq := f'.quo
    rw [Bool.false_and] at fq
    rw [decide_eq_false hn, cT rfl, abacistref06_Ceil_eq, yNeg, Option.bind_some, en, hz', hs' rfl, Option.bind_some]
    simp only [decide_true, Bool.not_true, cond_false]
    rw [yNeg, Option.bind_some, Option.bind_some, abacistref06_Trunc_1_eq, ← nat_one, fq.neg]; rfl
def smallV (s : Bool) (n : Nat) : Int × Bool := cond s (cond (decide (n ≤ 9223372036854775808)) (-(n : Int), true) (0, false)) (cond (decide (n < 9223372036854775808)) ((n : Int), true) (0, false))
def smallR (r : Rt) : Int × Bool := cond (decide ((well r).2.2 = [1])) (smallV (well r).1 (val (well r).2.1)) (0, false)
theorem xSmallN (s : List UInt8) (h : s.length ≤ 1000000000) : nat_Small s = some (small (val s)) := by
  refine (top_call ..).trans ?_
  show Go.Proofs.YtljapieoihecbaaGreatDoor.Q.smallQ s = _
  unfold Go.Proofs.YtljapieoihecbaaGreatDoor.Q.smallQ
  rw [ok_le h, cond_true]
theorem xSmallW {s : Bool} {n d : Nat} (f : Fm s n d) : whole_Small (s, nat n) = some (smallV s n) := by
  have h1 := f.nl
  have e2 : ∀ a, whole_Small_2 a true = some (0, false) := fun a => by rw [whole_Small_2_eq, cond_true]
  have e2' : ∀ a, whole_Small_2 a false = some (IntKind.i64.wrap a, true) := fun a => by rw [whole_Small_2_eq, cond_false]
  rw [whole_Small_eq, xWWell _ (by simp only; omega), Option.bind_some]
  simp only [val_nat, mkW_form f]
  rw [xSmallN _ (by omega), Option.bind_some, val_nat]
  unfold Go.Proofs.YtljapieoihecbaaGreatDoor.P.small
  by_cases h64 : n < 18446744073709551616
  · rw [if_pos h64]
    have hr : ∀ x : Int, -9223372036854775808 ≤ IntKind.i64.wrap x ∧ IntKind.i64.wrap x ≤ 9223372036854775807 := fun x => by rw [mod_i64]; omega
    have s1 : ∀ (a : Int), whole_Small_1 a true (s, nat n) = cond ((decide (IntKind.i64.wrap a < 0) == s) && decide ((IntKind.i64.wrap a).natAbs = n)) (some (IntKind.i64.wrap a, true)) (some (0, false)) := fun a => by
      rw [whole_Small_1_eq, Bool.not_true, cond_false, xWOf _ (hr a).1 (hr a).2, Option.bind_some]
      simp only [nat_inj]
      cases (decide (IntKind.i64.wrap a < 0) == s) && decide ((IntKind.i64.wrap a).natAbs = n)
      · exact e2 a
      · exact e2' a
    cases s with
    | false =>
      rw [cond_false, s1, smallV, cond_false]
      by_cases h : n < 9223372036854775808
      · have hw : IntKind.i64.wrap (n : Int) = (n : Int) := by rw [mod_i64]; omega
        rw [hw, decide_eq_false (by omega), decide_eq_true (by omega), decide_eq_true h]; rfl
      · rw [decide_eq_true (show IntKind.i64.wrap (n : Int) < 0 by rw [mod_i64]; omega), decide_eq_false h]; rfl
    | true =>
      have hn : ¬ n = 0 := fun h => by have := f.z h; cases this
      have hu : IntKind.u64.wrap (0 - (n : Int)) = 18446744073709551616 - (n : Int) := by rw [mod_u64]; omega
      rw [cond_true, s1, smallV, cond_true, hu]
      by_cases h : n ≤ 9223372036854775808
      · have hw : IntKind.i64.wrap (18446744073709551616 - (n : Int)) = -(n : Int) := by rw [mod_i64]; omega
        rw [hw, decide_eq_true (by omega), decide_eq_true (by omega), decide_eq_true h]; rfl
      · rw [decide_eq_false (show ¬ IntKind.i64.wrap (18446744073709551616 - (n : Int)) < 0 by rw [mod_i64]; omega), decide_eq_false h]; rfl
  · rw [if_neg h64, smallV, decide_eq_false (by omega), decide_eq_false (by omega)]
    cases s <;> (simp only [whole_Small_1_eq, Bool.not_false, cond_true, cond_false, e2])
theorem xSmallR (r : Rt) : round_Small r = some (smallR r) := by
  obtain ⟨s, n, d, e, f⟩ := well_form r
  rw [round_Small_eq, round_Whole_eq, xRdWell, Option.bind_some, Option.bind_some, smallR, e]
  cases decide (nat d = [1])
  · rfl
  · rw [Bool.not_true, cond_false, Option.bind_some, round_top_eq, Option.bind_some, xSmallW f, val_nat]; rfl
theorem ySmallW {s : Bool} {n d : Nat} (f : Fm s n d) : abacistref04_Small (s, nat n) = some (smallV s n) := by
  have h1 := f.nl
  rw [abacistref04_Small_eq, yWWell _ (by simp only; omega), Option.bind_some]
  simp only [val_nat, mkW_form f]
  rw [ySmall _ (by omega), Option.bind_some, val_nat]
  unfold Go.Proofs.YtljapieoihecbaaGreatDoor.P.small
  by_cases h64 : n < 18446744073709551616
  · rw [if_pos h64]
    simp only [Bool.not_true, cond_false, abacistref04_Small_1_eq]
    cases s with
    | false =>
      rw [smallV]
      by_cases h : n < 9223372036854775808
      · have hw : IntKind.i64.wrap (n : Int) = (n : Int) := by rw [mod_i64]; omega
        rw [hw, decide_eq_false (show ¬ (n : Int) ≥ 9223372036854775808 by omega), decide_eq_true h]; rfl
      · rw [decide_eq_true (show (n : Int) ≥ 9223372036854775808 by omega), decide_eq_false h]; rfl
    | true =>
      have hn : ¬ n = 0 := fun h => by have := f.z h; cases this
      have hu : IntKind.u64.wrap (0 - (n : Int)) = 18446744073709551616 - (n : Int) := by rw [mod_u64]; omega
      rw [smallV]
      by_cases h : n ≤ 9223372036854775808
      · have hw : IntKind.i64.wrap (18446744073709551616 - (n : Int)) = -(n : Int) := by rw [mod_i64]; omega
        rw [hu, hw, decide_eq_false (show ¬ (n : Int) > 9223372036854775808 by omega), decide_eq_true h]; rfl
      · rw [decide_eq_true (show (n : Int) > 9223372036854775808 by omega), decide_eq_false h]; rfl
  · rw [if_neg h64, smallV, decide_eq_false (show ¬ n ≤ 9223372036854775808 by omega), decide_eq_false (show ¬ n < 9223372036854775808 by omega)]
    cases s <;> rfl
theorem ySmallR (r : Rt) : abacistref06_Small r = some (smallR r) := by
  obtain ⟨s, n, d, e, f⟩ := well_form r
  rw [abacistref06_Small_eq, abacistref06_Whole_eq, yWell, Option.bind_some, Option.bind_some, smallR, e]
  cases decide (nat d = [1])
  · rfl
  · rw [Bool.not_true, cond_false, yTop e f, Option.bind_some, ySmallW f, val_nat]; rfl
end Go.Proofs.YtljapieoihecbaaGreatDoor.D
/- FlogNames: the names are alike; plain Lean over the equations. -/
namespace Go.Proofs.YtljapieoihecbaaGreatDoor.D
open Go Go.Proofs.YtljapieoihecbaaGreatDoor.K
theorem known20 : abacistlaw20_known = some true := of_depth 400 (by kernel_rfl)
end Go.Proofs.YtljapieoihecbaaGreatDoor.D
namespace Go.Proofs.YtljapieoihecbaaGreatDoor.K
open Go
end Go.Proofs.YtljapieoihecbaaGreatDoor.K
/- FlogRules: plain Lean over the equations. -/
namespace Go.Proofs.YtljapieoihecbaaGreatDoor.D
open Go Go.Proofs.YtljapieoihecbaaGreatDoor.K
abbrev Ar := List Vl × Int × Bool × Int × Int
def nIFERROR : List UInt8 := [73, 70, 69, 82, 82, 79, 82]
def nNOT : List UInt8 := [78, 79, 84]
def nOR : List UInt8 := [79, 82]
def nAND : List UInt8 := [65, 78, 68]
end Go.Proofs.YtljapieoihecbaaGreatDoor.D
namespace Go.Proofs.YtljapieoihecbaaGreatDoor.K
open Go
end Go.Proofs.YtljapieoihecbaaGreatDoor.K
/- Functions of truths: arguments, and what is joined; plain Lean; the program's and the reference's. -/
namespace Go.Proofs.YtljapieoihecbaaGreatDoor.D
open Go Go.Proofs.YtljapieoihecbaaGreatDoor.K
open Go.Proofs.YtljapieoihecbaaGreatDoor.P (wS wraps_i64)
def AZ : Ar := ([], 0, false, 0, 0)
def BL : Vl := (0, (false, [], []), [], false, 0)
theorem dropG {α : Type} (d : α) {l : List α} {i : Nat} (h : i < l.length) : l.drop i = l.getD i d :: l.drop (i + 1) := by
  rw [List.drop_eq_getElem_cons h, List.getD_eq_getElem?_getD, List.getElem?_eq_getElem h]; rfl
theorem getD_mem {α : Type} (d : α) {l : List α} {i : Nat} (h : i < l.length) : l.getD i d ∈ l := by
  rw [List.getD_eq_getElem?_getD, List.getElem?_eq_getElem h]; exact List.getElem_mem h
theorem ix0 {n : Nat} (h : 1 ≤ n) : (decide ((0 : Nat) ≤ 0) && decide ((0 : Int) < (n : Int))) = true := by simp; omega
def vl (v : Vl) : Bool := decide (v.2.2.1.length ≤ 1000) && (decide (v.2.1.2.1.length ≤ 100) && decide (v.2.1.2.2.length ≤ 100))
def la (a : Ar) : Bool := decide (a.1.length ≤ 210) && a.1.all vl
theorem light_2 (l : List Ar) (hl : l.length ≤ 25) (i : Nat) (hi : i < l.length) (hn : (l.getD i AZ).1.length ≤ 210) : ∀ (m k : Nat), k + m = (l.getD i AZ).1.length → abacistlaw20_light_2 l (i : Int) (k : Int) = cond (((l.getD i AZ).1.drop k).all vl) (abacistlaw20_light_1 l ((i + 1 : Nat) : Int)) (some false) := by
  intro m
  induction m with
  | zero =>
    intro k hk
    rw [abacistlaw20_light_2_eq, cT (ix hi), Int.toNat_natCast]
    rw [show l.getD i ([], 0, false, 0, 0) = l.getD i AZ from rfl, cF (decide_eq_false (by omega)), wS (by omega), List.drop_of_length_le (by omega)]; rfl
  | succ m ih =>
    intro k hk
    have hk' : k < (l.getD i AZ).1.length := by omega
    have l3 : ∀ q, abacistlaw20_light_3 l (i : Int) (k : Int) q = cond q (some false) (cond (((l.getD i AZ).1.drop (k + 1)).all vl) (abacistlaw20_light_1 l ((i + 1 : Nat) : Int)) (some false)) := fun q => by
      rw [abacistlaw20_light_3_eq, wS (by omega), ih (k + 1) (by omega)]
    rw [abacistlaw20_light_2_eq, cT (ix hi), Int.toNat_natCast]
    rw [show l.getD i ([], 0, false, 0, 0) = l.getD i AZ from rfl, cT (decide_eq_true (by omega)), cT (ix hi), cT (ix hk'), Int.toNat_natCast, show (l.getD i AZ).1.getD k (0, (false, [], []), [], false, 0) = (l.getD i AZ).1.getD k BL from rfl, dropG BL hk', List.all_cons]
    rw [l3, l3]
    generalize (l.getD i AZ).1.getD k BL = v
    generalize ((l.getD i AZ).1.drop (k + 1)).all vl = r
    unfold vl
    by_cases h1 : v.2.2.1.length ≤ 1000
    · rw [cF (decide_eq_false (show ¬ (v.2.2.1.length : Int) > 1000 by omega)), decide_eq_true h1]
      by_cases h2 : v.2.1.2.1.length ≤ 100
      · rw [cF (decide_eq_false (show ¬ (v.2.1.2.1.length : Int) > 100 by omega)), decide_eq_true h2]
        by_cases h3 : v.2.1.2.2.length ≤ 100
        · rw [decide_eq_false (show ¬ (v.2.1.2.2.length : Int) > 100 by omega), decide_eq_true h3]; rfl
        · rw [decide_eq_true (show (v.2.1.2.2.length : Int) > 100 by omega), decide_eq_false h3]; rfl
      · rw [cT (decide_eq_true (show (v.2.1.2.1.length : Int) > 100 by omega)), decide_eq_false h2]; rfl
    · rw [cT (decide_eq_true (show (v.2.2.1.length : Int) > 1000 by omega)), decide_eq_false h1]; rfl
theorem light_1 (l : List Ar) (hl : l.length ≤ 25) : ∀ (m i : Nat), i + m = l.length → abacistlaw20_light_1 l (i : Int) = some ((l.drop i).all la)
  | 0, i, h => by rw [abacistlaw20_light_1_eq, cF (decide_eq_false (by omega)), List.drop_of_length_le (by omega)]; rfl
  | m + 1, i, h => by
    have hi : i < l.length := by omega
    rw [abacistlaw20_light_1_eq, cT (decide_eq_true (by omega)), cT (ix hi), Int.toNat_natCast, dropG AZ hi, List.all_cons]
    rw [show l.getD i ([], 0, false, 0, 0) = l.getD i AZ from rfl, la]
    by_cases hn : (l.getD i AZ).1.length ≤ 210
    · rw [cF (decide_eq_false (by omega)), decide_eq_true hn, Bool.true_and]
      have := light_2 l hl i hi hn (l.getD i AZ).1.length 0 (Nat.zero_add _)
      rw [List.drop_zero] at this
      refine this.trans ?_
      rw [light_1 l hl m (i + 1) (by omega)]
      cases (l.getD i AZ).1.all vl <;> rfl
    · rw [cT (decide_eq_true (by omega)), decide_eq_false hn]; rfl
theorem light (l : List Ar) (hw : l.length ≤ 9223372036854775807) : abacistlaw20_light l = some (decide (l.length ≤ 25) && l.all la) := by
  rw [abacistlaw20_light_eq]
  by_cases h : l.length ≤ 25
  · rw [cF (decide_eq_false (by omega)), decide_eq_true h, Bool.true_and]
    exact light_1 l h l.length 0 (Nat.zero_add _)
  · rw [cT (decide_eq_true (by omega)), decide_eq_false h]; rfl
def okA (a : Ar) : Bool := decide (1 ≤ a.2.1) && (decide (1 ≤ a.1.length) && (decide (a.1.length ≤ 200) && (decide ((a.1.length : Int).tmod a.2.1 = 0) && ((a.2.2.1 || decide (a.1.length ≤ 1)) && a.1.all vRight))))
def short (a : Ar) : Prop := ∀ v ∈ a.1, v.2.2.1.length ≤ 9223372036854775807
theorem xOdd4 (a : List Vl) (hs : ∀ v ∈ a, v.2.2.1.length ≤ 9223372036854775807) (hl : a.length ≤ 200) : ∀ (m i : Nat), i + m = a.length → flog_odd_4 a (a.length : Int) (i : Int) = some (!(a.drop i).all vRight)
  | 0, i, h => by rw [flog_odd_4_eq, cF (decide_eq_false (by omega)), List.drop_of_length_le (by omega)]; rfl
  | m + 1, i, h => by
    have hi : i < a.length := by omega
    rw [flog_odd_4_eq, cT (decide_eq_true (by omega)), cT (ix hi), Int.toNat_natCast, show a.getD i (0, (false, [], []), [], false, 0) = a.getD i BL from rfl, flog_odd_5_eq, xvRight _ (hs _ (getD_mem BL hi)), Option.bind_some, wS (by omega), xOdd4 a hs hl m (i + 1) (by omega), dropG BL hi, List.all_cons]
    cases vRight (a.getD i BL)
    · rw [Bool.not_false, cond_true, decide_eq_true (by omega)]; rfl
    · rfl
theorem xOddA (a : Ar) (hs : short a) (hw : a.1.length ≤ 9223372036854775807) : flog_odd a = some (!okA a) := by
  have bad : flog_odd_1 true a = some true := by rw [flog_odd_1_eq, cond_true]
  rw [flog_odd_eq, okA, bad]
  by_cases h1 : 1 ≤ a.2.1
  · rw [cF (decide_eq_false (by omega)), decide_eq_true h1]
    by_cases h2 : 1 ≤ a.1.length
    · rw [cF (decide_eq_false (by omega)), decide_eq_true h2]
      by_cases h3 : a.1.length ≤ 200
      · have good : flog_odd_1 false a = some (!a.1.all vRight) := by
          rw [flog_odd_1_eq, cond_false, flog_odd_2_eq, flog_odd_3_eq]
          exact xOdd4 a.1 hs h3 a.1.length 0 (Nat.zero_add _)
        rw [cF (decide_eq_false (by omega)), decide_eq_true h3, cT (by rw [decide_eq_false (by omega)]; rfl)]
        by_cases h4 : (a.1.length : Int).tmod a.2.1 = 0
        · rw [cF (by rw [decide_eq_true h4]; rfl), decide_eq_true h4]
          cases a.2.2.1
          · by_cases h5 : a.1.length ≤ 1
            · rw [decide_eq_false (show ¬ (a.1.length : Int) > 1 by omega), good, decide_eq_true h5]; rfl
            · rw [decide_eq_true (show (a.1.length : Int) > 1 by omega), bad, decide_eq_false h5]; rfl
          · rw [good]; rfl
        · rw [cT (by rw [decide_eq_false h4]; rfl), decide_eq_false h4]; rfl
      · rw [cT (decide_eq_true (by omega)), decide_eq_false h3]; rfl
    · rw [cT (decide_eq_true (by omega)), decide_eq_false h2]; rfl
  · rw [cT (decide_eq_true (by omega)), decide_eq_false h1]; rfl
theorem yMay2 (a : Ar) (hl : a.1.length ≤ 200) : ∀ (m i : Nat), i + m = a.1.length → abacistref19_May_2 (a.1.length : Int) (i : Int) a = some ((a.1.drop i).all vRight)
  | 0, i, h => by rw [abacistref19_May_2_eq, cF (decide_eq_false (by omega)), List.drop_of_length_le (by omega)]; rfl
  | m + 1, i, h => by
    have hi : i < a.1.length := by omega
    rw [abacistref19_May_2_eq, cT (decide_eq_true (by omega)), cT (ix hi), Int.toNat_natCast, show a.1.getD i (0, (false, [], []), [], false, 0) = a.1.getD i BL from rfl, yvRight, Option.bind_some, wS (by omega), yMay2 a hl m (i + 1) (by omega), dropG BL hi, List.all_cons]
    cases vRight (a.1.getD i BL) <;> rfl
theorem yMayA (a : Ar) (hw : a.1.length ≤ 9223372036854775807) : abacistref19_May a = some (okA a) := by
  have bad : abacistref19_May_1 (a.1.length : Int) true a = some false := by rw [abacistref19_May_1_eq, cond_true]
  rw [abacistref19_May_eq, okA, bad]
  by_cases h1 : 1 ≤ a.2.1
  · rw [cF (decide_eq_false (by omega)), decide_eq_true h1]
    by_cases hc : a.2.1 > 200
    · rw [cT (decide_eq_true hc)]
      by_cases h2 : 1 ≤ a.1.length
      · by_cases h3 : a.1.length ≤ 200
        · have : (a.1.length : Int).tmod a.2.1 = (a.1.length : Int) := Int.tmod_eq_of_lt (by omega) (by omega)
          rw [this, decide_eq_false (show ¬ (a.1.length : Int) = 0 by omega)]
          simp
        · rw [decide_eq_false h3]; simp
      · rw [decide_eq_false h2]; rfl
    rw [cF (decide_eq_false hc)]
    by_cases h2 : 1 ≤ a.1.length
    · rw [cF (decide_eq_false (by omega)), decide_eq_true h2]
      by_cases h3 : a.1.length ≤ 200
      · have good : abacistref19_May_1 (a.1.length : Int) false a = some (a.1.all vRight) := by
          rw [abacistref19_May_1_eq, cond_false]
          exact yMay2 a h3 a.1.length 0 (Nat.zero_add _)
        rw [cF (decide_eq_false (by omega)), decide_eq_true h3, cT (by rw [decide_eq_false (by omega)]; rfl)]
        by_cases h4 : (a.1.length : Int).tmod a.2.1 = 0
        · rw [cF (by rw [decide_eq_true h4]; rfl), decide_eq_true h4]
          cases a.2.2.1
          · by_cases h5 : a.1.length ≤ 1
            · rw [decide_eq_true (show (a.1.length : Int) = 1 by omega), Bool.not_true, good, decide_eq_true h5]; rfl
            · rw [decide_eq_false (show ¬ (a.1.length : Int) = 1 by omega), Bool.not_false, bad, decide_eq_false h5]; rfl
          · rw [good]; rfl
        · rw [cT (by rw [decide_eq_false h4]; rfl), decide_eq_false h4]; rfl
      · rw [cT (decide_eq_true (by omega)), decide_eq_false h3]; rfl
    · rw [cT (decide_eq_true (by omega)), decide_eq_false h2]; rfl
  · rw [cT (decide_eq_true (by omega)), decide_eq_false h1]; rfl
def oneV (a : Ar) : Vl := cond (decide (a.1.length ≤ 1)) (a.1.getD 0 BL) (vFault 2)
theorem okA_parts {a : Ar} (h : okA a = true) : 1 ≤ a.1.length ∧ a.1.length ≤ 200 ∧ (a.2.2.1 = false → a.1.length = 1) ∧ ∀ v ∈ a.1, vRight v = true := by
  unfold okA at h
  simp only [Bool.and_eq_true, decide_eq_true_eq, Bool.or_eq_true, List.all_eq_true] at h
  obtain ⟨_, h2, h3, _, h5, h6⟩ := h
  refine ⟨h2, h3, fun hf => ?_, h6⟩
  rw [hf] at h5
  rcases h5 with h5 | h5
  · cases h5
  · omega
theorem xSingle {a : Ar} (h : okA a = true) : flog_single a = some (oneV a) := by
  obtain ⟨h1, h2, _, _⟩ := okA_parts h
  rw [flog_single_eq, oneV]
  by_cases h3 : a.1.length ≤ 1
  · rw [cF (decide_eq_false (by omega)), cT (ix0 h1), decide_eq_true h3]; rfl
  · rw [cT (decide_eq_true (by omega)), xvFault, decide_eq_false h3]; rfl
theorem yOne {a : Ar} (h : okA a = true) : abacistref19_One a = some (oneV a) := by
  obtain ⟨h1, h2, _, _⟩ := okA_parts h
  rw [abacistref19_One_eq, oneV]
  by_cases h3 : a.1.length ≤ 1
  · rw [cF (by rw [decide_eq_true (by omega)]; rfl), cT (ix0 h1), decide_eq_true h3]; rfl
  · rw [cT (by rw [decide_eq_false (by omega)]; rfl), yvFault, decide_eq_false h3]; rfl
theorem oneV_right {a : Ar} (h : okA a = true) : vRight (oneV a) = true := by
  obtain ⟨h1, h2, _, h4⟩ := okA_parts h
  unfold oneV
  cases decide (a.1.length ≤ 1)
  · exact right_fault rfl
  · exact h4 _ (getD_mem BL (by omega))
noncomputable def dispX (name : List UInt8) (l : List Ar) (v : List Vl) : Option Vl := cond (decide (name = nAND)) (flog_Do_5 name l name true v BL) (cond (decide (name = nOR)) (flog_Do_5 name l name true v BL) (flog_Do_5 name l name (decide (name = [88, 79, 82])) v BL))
noncomputable def dispY (name : List UInt8) (l : List Ar) (v : List Vl) : Option Vl := cond (decide (name = nAND)) (abacistref20_Do_3 name l name true v BL) (cond (decide (name = nOR)) (abacistref20_Do_3 name l name true v BL) (abacistref20_Do_3 name l name (decide (name = [88, 79, 82])) v BL))
theorem xDo3 (name : List UInt8) (l : List Ar) (hl : l.length ≤ 25) (ho : ∀ a ∈ l, okA a = true) : ∀ (m i : Nat) (acc : List Vl), i + m = l.length → acc.length = i → flog_Do_3 name l l (l.length : Int) (i : Int) acc BL = dispX name l (acc ++ (l.drop i).map oneV)
  | 0, i, acc, h, ha => by
    rw [flog_Do_3_eq, cF (decide_eq_false (by omega)), List.drop_of_length_le (by omega), List.map_nil, List.append_nil]; rfl
  | m + 1, i, acc, h, ha => by
    have hi : i < l.length := by omega
    rw [flog_Do_3_eq, cT (decide_eq_true (by omega)), cT (ix hi), Int.toNat_natCast, show l.getD i ([], 0, false, 0, 0) = l.getD i AZ from rfl, xSingle (ho _ (getD_mem AZ hi)), Option.bind_some, cT (Nat.ble_eq_true_of_le (by simp only [List.length_cons, List.length_nil]; omega)), wS (by omega), xDo3 name l hl ho m (i + 1) _ (by omega) (by simp; omega), dropG AZ hi, List.map_cons, List.append_assoc]; rfl
theorem yDo2 (name : List UInt8) (l : List Ar) (hl : l.length ≤ 25) (ho : ∀ a ∈ l, okA a = true) : ∀ (m i : Nat) (acc : List Vl), i + m = l.length → acc.length = i → abacistref20_Do_2 name l (i : Int) acc BL = dispY name l (acc ++ (l.drop i).map oneV)
  | 0, i, acc, h, ha => by
    rw [abacistref20_Do_2_eq, cF (decide_eq_false (by omega)), List.drop_of_length_le (by omega), List.map_nil, List.append_nil]; rfl
  | m + 1, i, acc, h, ha => by
    have hi : i < l.length := by omega
    rw [abacistref20_Do_2_eq, cT (decide_eq_true (by omega)), cT (ix hi), Int.toNat_natCast, show l.getD i ([], 0, false, 0, 0) = l.getD i AZ from rfl, yOne (ho _ (getD_mem AZ hi)), Option.bind_some, cT (Nat.ble_eq_true_of_le (by simp only [List.length_cons, List.length_nil]; omega)), wS (by omega), yDo2 name l hl ho m (i + 1) _ (by omega) (by simp; omega), dropG AZ hi, List.map_cons, List.append_assoc]; rfl
theorem xDo6 (name : List UInt8) (l : List Ar) (hl : l.length ≤ 25) (hs : ∀ a ∈ l, short a ∧ a.1.length ≤ 9223372036854775807) : ∀ (m i : Nat), i + m = l.length → flog_Do_6 l (l.length : Int) (i : Int) BL name l false = cond ((l.drop i).all okA) (flog_Do_1 name l false BL) (some (vFault 2))
  | 0, i, h => by
    rw [flog_Do_6_eq, cF (decide_eq_false (by omega)), List.drop_of_length_le (by omega)]; rfl
  | m + 1, i, h => by
    have hi : i < l.length := by omega
    have hm := hs _ (getD_mem AZ hi)
    rw [flog_Do_6_eq, cT (decide_eq_true (by omega)), cT (ix hi), Int.toNat_natCast, show l.getD i ([], 0, false, 0, 0) = l.getD i AZ from rfl, xOddA _ hm.1 hm.2, Option.bind_some, wS (by omega), xDo6 name l hl hs m (i + 1) (by omega), dropG AZ hi, List.all_cons]
    cases okA (l.getD i AZ)
    · rw [Bool.not_false, cond_true, cond_false, decide_eq_true (by omega), flog_Do_1_eq, cond_true, xvFault]; rfl
    · rfl
theorem yMays (l : List Ar) (hl : l.length ≤ 25) (hs : ∀ a ∈ l, a.1.length ≤ 9223372036854775807) : ∀ (m i : Nat), i + m = l.length → abacistref19_Mays_1 l (i : Int) = some ((l.drop i).all okA)
  | 0, i, h => by rw [abacistref19_Mays_1_eq, cF (decide_eq_false (by omega)), List.drop_of_length_le (by omega)]; rfl
  | m + 1, i, h => by
    have hi : i < l.length := by omega
    rw [abacistref19_Mays_1_eq, cT (decide_eq_true (by omega)), cT (ix hi), Int.toNat_natCast, show l.getD i ([], 0, false, 0, 0) = l.getD i AZ from rfl, yMayA _ (hs _ (getD_mem AZ hi)), Option.bind_some, wS (by omega), yMays l hl hs m (i + 1) (by omega), dropG AZ hi, List.all_cons]
    cases okA (l.getD i AZ) <;> rfl
end Go.Proofs.YtljapieoihecbaaGreatDoor.D
/- What is joined: AND, OR, XOR; plain Lean; the program's and the reference's. -/
namespace Go.Proofs.YtljapieoihecbaaGreatDoor.D
open Go Go.Proofs.YtljapieoihecbaaGreatDoor.K
open Go.Proofs.YtljapieoihecbaaGreatDoor.P (wS wraps_i64)
def cons1 (area : Bool) (v : Vl) : Bool := !(area && (decide (v.1 = 0) || decide (v.1 = 2)))
def consider (a : Ar) : List Vl := a.1.filter (cons1 a.2.2.1)
def joinS : List Vl → Nat → Nat → Int × Nat × Nat
  | [], a, s => (0, a, s)
  | v :: r, a, s => cond (decide ((truthV v).2 = 0)) (joinS r (a + 1) (s + cond (truthV v).1 1 0)) ((truthV v).2, a, s)
def finV (name : List UInt8) (a s : Nat) : Vl := cond (decide (a = 0)) (vFault 2) (cond (decide (name = nAND)) (vTruth (decide (s = a))) (cond (decide (name = nOR)) (vTruth (decide (0 < s))) (vTruth (decide (s % 2 = 1)))))
def fin3 (name : List UInt8) (r : Int × Nat × Nat) : Vl := cond (decide (r.1 = 0)) (finV name r.2.1 r.2.2) (vFault r.1)
def joinV (name : List UInt8) (l : List Ar) : Vl := fin3 name (joinS (l.flatMap consider) 0 0)
def thenS (r : Int × Nat × Nat) (y : List Vl) : Int × Nat × Nat := cond (decide (r.1 = 0)) (joinS y r.2.1 r.2.2) r
theorem joinS_ok {v : Vl} (h : (truthV v).2 = 0) (r : List Vl) (a s : Nat) : joinS (v :: r) a s = joinS r (a + 1) (s + cond (truthV v).1 1 0) := by
  show cond (decide ((truthV v).2 = 0)) _ _ = _
  rw [decide_eq_true h, cond_true]
theorem joinS_bad {v : Vl} (h : ¬ (truthV v).2 = 0) (r : List Vl) (a s : Nat) : joinS (v :: r) a s = ((truthV v).2, a, s) := by
  show cond (decide ((truthV v).2 = 0)) _ _ = _
  rw [decide_eq_false h, cond_false]
theorem thenS_ok {r : Int × Nat × Nat} (h : r.1 = 0) (y : List Vl) : thenS r y = joinS y r.2.1 r.2.2 := by unfold thenS; rw [decide_eq_true h, cond_true]
theorem thenS_bad {r : Int × Nat × Nat} (h : ¬ r.1 = 0) (y : List Vl) : thenS r y = r := by unfold thenS; rw [decide_eq_false h, cond_false]
theorem joinS_append : ∀ (x y : List Vl) (a s : Nat), joinS (x ++ y) a s = thenS (joinS x a s) y
  | [], y, a, s => rfl
  | v :: x, y, a, s => by
    rw [List.cons_append]
    by_cases h : (truthV v).2 = 0
    · rw [joinS_ok h, joinS_ok h]; exact joinS_append x y _ _
    · rw [joinS_bad h, joinS_bad h, thenS_bad h]
theorem joinS_le : ∀ (x : List Vl) (a s : Nat), s ≤ a → (joinS x a s).2.1 ≤ a + x.length ∧ (joinS x a s).2.2 ≤ (joinS x a s).2.1
  | [], a, s, h => ⟨Nat.le_refl _, h⟩
  | v :: x, a, s, h => by
    by_cases hf : (truthV v).2 = 0
    · rw [joinS_ok hf]
      have := joinS_le x (a + 1) (s + cond (truthV v).1 1 0) (by cases (truthV v).1 <;> simp <;> omega)
      exact ⟨by simp only [List.length_cons]; omega, this.2⟩
    · rw [joinS_bad hf]
      exact ⟨by simp only; omega, h⟩
theorem and1 (n : Nat) (h : n ≤ 1000000) : decide (bitop .and .i64 (n : Int) 1 = 1) = decide (n % 2 = 1) := by
  have : bitop .and .i64 (n : Int) 1 = (n : Int) % 2 := bits_mask .i64 63 (by decide) wraps_i64 1 (by decide) (n : Int) (by omega) (by omega)
  rw [this]
  exact decide_eq_decide.2 (by omega)
theorem xFin (name : List UInt8) (a s : Nat) (hs : s ≤ 1000000) : cond (decide ((a : Int) = 0)) ((value_Fault 2).bind fun v1 => some v1) (cond (decide (name = [65, 78, 68])) ((value_Truth (decide ((s : Int) = (a : Int)))).bind fun v2 => some v2) (cond (decide (name = [79, 82])) ((value_Truth (decide ((s : Int) > 0))).bind fun v3 => some v3) ((value_Truth (decide ((bitop .and .i64 (s : Int) 1) = 1))).bind fun v4 => some v4))) = some (finV name a s) := by
  rw [and1 s hs, xvFault, xvTruth, xvTruth, xvTruth, finV]
  rw [show decide ((a : Int) = 0) = decide (a = 0) from decide_eq_decide.2 (by omega), show decide ((s : Int) = (a : Int)) = decide (s = a) from decide_eq_decide.2 (by omega), show decide ((s : Int) > 0) = decide (0 < s) from decide_eq_decide.2 (by omega)]
  unfold nAND nOR
  cases decide (a = 0) <;> cases decide (name = [65, 78, 68]) <;> cases decide (name = [79, 82]) <;> rfl
noncomputable def J3 (name : List UInt8) (l : List Ar) (i : Nat) (r : Int × Nat × Nat) : Option Vl := cond (decide (r.1 = 0)) (flog_joined_3 l (l.length : Int) ((i + 1 : Nat) : Int) BL (r.2.1 : Int) (r.2.2 : Int) name) (some (vFault r.1))
theorem xJoin4 (name : List UInt8) (l : List Ar) (hl : l.length ≤ 25) (i : Nat) (hi : i < l.length) (ar : Ar) (hn : ar.1.length ≤ 200) (hr : ∀ v ∈ ar.1, vRight v = true) : ∀ (m k a s : Nat), k + m = ar.1.length → a ≤ 1000 * i + k → s ≤ a →
    flog_joined_4 l (l.length : Int) (i : Int) ar.1 (ar.1.length : Int) (k : Int) ar BL (a : Int) (s : Int) name = J3 name l i (joinS ((ar.1.drop k).filter (cons1 ar.2.2.1)) a s) := by
  intro m
  induction m with
  | zero =>
    intro k a s hk ha hs
    rw [flog_joined_4_eq, cF (decide_eq_false (by omega)), List.drop_of_length_le (by omega), wS (by omega)]; rfl
  | succ m ih =>
    intro k a s hk ha hs
    have hk' : k < ar.1.length := by omega
    have hv := hr _ (getD_mem BL hk')
    rw [flog_joined_4_eq, cT (decide_eq_true (by omega)), cT (ix hk'), Int.toNat_natCast, show ar.1.getD k (0, (false, [], []), [], false, 0) = ar.1.getD k BL from rfl, dropG BL hk', List.filter_cons]
    generalize ar.1.getD k BL = v at hv ⊢
    have keyF : flog_joined_5 l (l.length : Int) (i : Int) ar.1 (ar.1.length : Int) (k : Int) true ar v BL (a : Int) (s : Int) name = J3 name l i (joinS ((ar.1.drop (k + 1)).filter (cons1 ar.2.2.1)) a s) := by
      rw [flog_joined_5_eq, wS (by omega), cond_true]
      exact ih (k + 1) a s (by omega) (by omega) hs
    have keyT : flog_joined_5 l (l.length : Int) (i : Int) ar.1 (ar.1.length : Int) (k : Int) false ar v BL (a : Int) (s : Int) name = J3 name l i (joinS (v :: (ar.1.drop (k + 1)).filter (cons1 ar.2.2.1)) a s) := by
      have l8 : ∀ (a' s' : Nat), flog_joined_8 l (l.length : Int) (i : Int) ar.1 (ar.1.length : Int) (k : Int) false ar BL (a' : Int) (s' : Int) name = flog_joined_4 l (l.length : Int) (i : Int) ar.1 (ar.1.length : Int) ((k + 1 : Nat) : Int) ar BL (a' : Int) (s' : Int) name := fun a' s' => by
        rw [flog_joined_8_eq, cond_false, wS (by omega)]
      rw [flog_joined_5_eq, cond_false, xcTruth v (by have := right_len hv; omega), Option.bind_some, flog_joined_6_eq, wS (by omega), wS (by omega)]
      by_cases hf : (truthV v).2 = 0
      · rw [joinS_ok hf, decide_eq_true hf, Bool.not_true, cond_false]
        cases hb : (truthV v).1
        · rw [cond_false, l8, ih (k + 1) (a + 1) s (by omega) (by omega) (by omega)]; rfl
        · rw [cond_true, l8, ih (k + 1) (a + 1) (s + 1) (by omega) (by omega) (by omega)]; rfl
      · rw [joinS_bad hf, decide_eq_false hf, Bool.not_false, cond_true, xvFault, Option.bind_some, flog_joined_7_eq, J3, decide_eq_false hf]; rfl
    have e : cons1 ar.2.2.1 v = !(ar.2.2.1 && (decide (v.1 = 0) || decide (v.1 = 2))) := rfl
    cases har : ar.2.2.1
    · rw [har, Bool.false_and] at e
      rw [if_pos (by rw [har] at keyT; exact e), cond_false, keyT, har]
    · rw [har, Bool.true_and] at e
      rw [cond_true, keyF, har]
      cases h0 : decide (v.1 = 0)
      · rw [cond_false]
        cases h2 : decide (v.1 = 2)
        · rw [h0, h2] at e
          rw [if_pos (show cons1 true v = true from e), keyT, har]
        · rw [h0, h2] at e
          rw [if_neg (by rw [e]; simp), keyF, har]
      · rw [h0] at e
        rw [cond_true, if_neg (by rw [e]; simp)]
theorem xJoin3 (name : List UInt8) (l : List Ar) (hl : l.length ≤ 25) (ho : ∀ a ∈ l, okA a = true) : ∀ (m i a s : Nat), i + m = l.length → a ≤ 1000 * i → s ≤ a →
    flog_joined_3 l (l.length : Int) (i : Int) BL (a : Int) (s : Int) name = some (fin3 name (joinS ((l.drop i).flatMap consider) a s))
  | 0, i, a, s, h, ha, hs => by
    rw [flog_joined_3_eq, cF (decide_eq_false (by omega)), List.drop_of_length_le (by omega)]
    exact xFin name a s (by omega)
  | m + 1, i, a, s, h, ha, hs => by
    have hi : i < l.length := by omega
    obtain ⟨h1, h2, _, h4⟩ := okA_parts (ho _ (getD_mem AZ hi))
    rw [flog_joined_3_eq, cT (decide_eq_true (by omega)), cT (ix hi), Int.toNat_natCast, show l.getD i ([], 0, false, 0, 0) = l.getD i AZ from rfl]
    have := xJoin4 name l hl i hi (l.getD i AZ) h2 h4 (l.getD i AZ).1.length 0 a s (Nat.zero_add _) (by omega) hs
    rw [List.drop_zero] at this
    refine this.trans ?_
    rw [dropG AZ hi, List.flatMap_cons, joinS_append]
    show J3 name l i (joinS (consider (l.getD i AZ)) a s) = _
    obtain ⟨b1, b2⟩ := joinS_le (consider (l.getD i AZ)) a s hs
    have b3 : (consider (l.getD i AZ)).length ≤ (l.getD i AZ).1.length := List.length_filter_le _ _
    generalize joinS (consider (l.getD i AZ)) a s = r at b1 b2 ⊢
    by_cases hf : r.1 = 0
    · rw [thenS_ok hf, J3, decide_eq_true hf, cond_true, xJoin3 name l hl ho m (i + 1) r.2.1 r.2.2 (by omega) (by omega) b2]
    · rw [thenS_bad hf, J3, decide_eq_false hf, cond_false, fin3, decide_eq_false hf, cond_false]
theorem xJoined (name : List UInt8) (l : List Ar) (hl : l.length ≤ 25) (ho : ∀ a ∈ l, okA a = true) : flog_joined name l = some (joinV name l) := by
  rw [flog_joined_eq, flog_joined_1_eq, flog_joined_2_eq]
  exact xJoin3 name l hl ho l.length 0 0 0 (Nat.zero_add _) (Nat.zero_le _) (Nat.le_refl _)
def joinB : List Vl → List Bool → List Bool × Int
  | [], bs => (bs, 0)
  | v :: r, bs => cond (decide ((truthV v).2 = 0)) (joinB r (bs ++ [(truthV v).1])) ([], (truthV v).2)
def tally (bs : List Bool) : Nat := (bs.filter id).length
theorem tally_snoc (bs : List Bool) (b : Bool) : tally (bs ++ [b]) = tally bs + cond b 1 0 := by
  unfold tally
  rw [List.filter_append, List.length_append]
  cases b <;> rfl
theorem joinB_ok {v : Vl} (h : (truthV v).2 = 0) (r : List Vl) (bs : List Bool) : joinB (v :: r) bs = joinB r (bs ++ [(truthV v).1]) := by
  show cond (decide ((truthV v).2 = 0)) _ _ = _
  rw [decide_eq_true h, cond_true]
theorem joinB_bad {v : Vl} (h : ¬ (truthV v).2 = 0) (r : List Vl) (bs : List Bool) : joinB (v :: r) bs = ([], (truthV v).2) := by
  show cond (decide ((truthV v).2 = 0)) _ _ = _
  rw [decide_eq_false h, cond_false]
theorem joinB_S : ∀ (x : List Vl) (bs : List Bool), (joinB x bs).2 = (joinS x bs.length (tally bs)).1 ∧ ((joinB x bs).2 = 0 → (joinB x bs).1.length = (joinS x bs.length (tally bs)).2.1 ∧ tally (joinB x bs).1 = (joinS x bs.length (tally bs)).2.2)
  | [], bs => ⟨rfl, fun _ => ⟨rfl, rfl⟩⟩
  | v :: x, bs => by
    by_cases h : (truthV v).2 = 0
    · have := joinB_S x (bs ++ [(truthV v).1])
      rw [tally_snoc, List.length_append] at this
      rw [joinB_ok h, joinS_ok h]
      exact this
    · rw [joinB_bad h, joinS_bad h]
      exact ⟨rfl, fun h' => absurd h' h⟩
def thenB (r : List Bool × Int) (y : List Vl) : List Bool × Int := cond (decide (r.2 = 0)) (joinB y r.1) r
theorem thenB_ok {r : List Bool × Int} (h : r.2 = 0) (y : List Vl) : thenB r y = joinB y r.1 := by unfold thenB; rw [decide_eq_true h, cond_true]
theorem thenB_bad {r : List Bool × Int} (h : ¬ r.2 = 0) (y : List Vl) : thenB r y = r := by unfold thenB; rw [decide_eq_false h, cond_false]
theorem joinB_append : ∀ (x y : List Vl) (bs : List Bool), joinB (x ++ y) bs = thenB (joinB x bs) y
  | [], y, bs => rfl
  | v :: x, y, bs => by
    rw [List.cons_append]
    by_cases h : (truthV v).2 = 0
    · rw [joinB_ok h, joinB_ok h]; exact joinB_append x y _
    · rw [joinB_bad h, joinB_bad h, thenB_bad h]
theorem joinB_len : ∀ (x : List Vl) (bs : List Bool), (joinB x bs).1.length ≤ bs.length + x.length
  | [], bs => Nat.le_refl _
  | v :: x, bs => by
    by_cases h : (truthV v).2 = 0
    · rw [joinB_ok h]
      have := joinB_len x (bs ++ [(truthV v).1])
      rw [List.length_append] at this
      simp only [List.length_cons, List.length_nil] at this ⊢
      omega
    · rw [joinB_bad h]; simp
theorem truth_right {v : Vl} (h : vRight v = true) (hk : v.1 = 3 ∨ v.1 = 1) : (truthV v).2 = 0 := by
  have hf : cFault v = 0 := by
    unfold cFault
    rw [h, cond_true]
    rcases hk with k | k
    · rw [right3 h k]; rfl
    · rw [right1 h k]; rfl
  unfold truthV
  rw [hf]
  rcases hk with k | k
  · rw [k]; rfl
  · rw [k]; rfl
theorem truth_fault {v : Vl} (h : vRight v = true) (hk : v.1 = 4) : (truthV v).2 = v.2.2.2.2 ∧ v.2.2.2.2 ≠ 0 := by
  have hne : v.2.2.2.2 ≠ 0 := fun h0 => by
    have := congrArg (fun x : Vl => x.2.2.2.2) (right4 h hk)
    simp only [vFault, h0] at this
    cases this
  have hf : cFault v = v.2.2.2.2 := by unfold cFault; rw [h, cond_true]
  unfold truthV
  rw [hf, decide_eq_false hne]
  exact ⟨rfl, hne⟩
noncomputable def B1 (l : List Ar) (i : Nat) (r : List Bool × Int) : Option (List Bool × Int) := cond (decide (r.2 = 0)) (abacistref20_truths_1 l ((i + 1 : Nat) : Int) r.1) (some ([], r.2))
theorem yTruths2 (l : List Ar) (hl : l.length ≤ 25) (i : Nat) (hi : i < l.length) (hn : (l.getD i AZ).1.length ≤ 200) (hr : ∀ v ∈ (l.getD i AZ).1, vRight v = true) : ∀ (m k : Nat) (bs : List Bool), k + m = (l.getD i AZ).1.length → bs.length ≤ 1000 * i + k →
    abacistref20_truths_2 l (i : Int) (k : Int) bs = B1 l i (joinB (((l.getD i AZ).1.drop k).filter (cons1 true)) bs) := by
  intro m
  induction m with
  | zero =>
    intro k bs hk hb
    rw [abacistref20_truths_2_eq, cT (ix hi), Int.toNat_natCast, show l.getD i ([], 0, false, 0, 0) = l.getD i AZ from rfl, cF (decide_eq_false (by omega)), wS (by omega), List.drop_of_length_le (by omega)]; rfl
  | succ m ih =>
    intro k bs hk hb
    have hk' : k < (l.getD i AZ).1.length := by omega
    have hv := hr _ (getD_mem BL hk')
    rw [abacistref20_truths_2_eq, cT (ix hi), Int.toNat_natCast, show l.getD i ([], 0, false, 0, 0) = l.getD i AZ from rfl, cT (decide_eq_true (by omega)), cT (ix hi), cT (ix hk'), Int.toNat_natCast, show (l.getD i AZ).1.getD k (0, (false, [], []), [], false, 0) = (l.getD i AZ).1.getD k BL from rfl, dropG BL hk', List.filter_cons]
    have l4 : ∀ bs', abacistref20_truths_4 l (i : Int) (k : Int) bs' = abacistref20_truths_2 l (i : Int) ((k + 1 : Nat) : Int) bs' := fun bs' => by rw [abacistref20_truths_4_eq, wS (by omega)]
    generalize (l.getD i AZ).1.getD k BL = v at hv ⊢
    have l3t : (truthV v).2 = 0 → abacistref20_truths_3 l (i : Int) (k : Int) true bs v = abacistref20_truths_2 l (i : Int) ((k + 1 : Nat) : Int) (bs ++ [(truthV v).1]) := fun hf => by
      rw [abacistref20_truths_3_eq, cond_true, ycTruth, Option.bind_some, cT (Nat.ble_eq_true_of_le (by simp only [List.length_cons, List.length_nil]; omega)), l4]
    have l3f : abacistref20_truths_3 l (i : Int) (k : Int) false bs v = abacistref20_truths_2 l (i : Int) ((k + 1 : Nat) : Int) bs := by rw [abacistref20_truths_3_eq, cond_false, l4]
    have hlen : ∀ b : Bool, (bs ++ [b]).length ≤ 1000 * i + (k + 1) := fun b => by rw [List.length_append]; simp; omega
    rcases right_kind hv with hk0 | hk0 | hk0 | hk0 | hk0
    · rw [if_neg (by unfold cons1; rw [hk0]; simp), cF (decide_eq_false (by omega)), cF (decide_eq_false (by omega)), decide_eq_false (by omega), l3f, ih (k + 1) bs (by omega) (by omega)]
    · have hf := truth_right hv (.inr hk0)
      rw [if_pos (by unfold cons1; rw [hk0]; rfl), cF (decide_eq_false (by omega)), cF (decide_eq_false (by omega)), decide_eq_true hk0, l3t hf, ih (k + 1) _ (by omega) (hlen _), joinB_ok hf]
    · rw [if_neg (by unfold cons1; rw [hk0]; simp), cF (decide_eq_false (by omega)), cF (decide_eq_false (by omega)), decide_eq_false (by omega), l3f, ih (k + 1) bs (by omega) (by omega)]
    · have hf := truth_right hv (.inl hk0)
      rw [if_pos (by unfold cons1; rw [hk0]; rfl), cF (decide_eq_false (by omega)), cT (decide_eq_true hk0), l3t hf, ih (k + 1) _ (by omega) (hlen _), joinB_ok hf]
    · obtain ⟨hf, hne⟩ := truth_fault hv hk0
      have hne' : ¬ (truthV v).2 = 0 := by rw [hf]; exact hne
      rw [if_pos (by unfold cons1; rw [hk0]; rfl), cT (decide_eq_true hk0), joinB_bad hne', B1, decide_eq_false hne', cond_false, hf]
theorem yTruths1 (l : List Ar) (hl : l.length ≤ 25) (ho : ∀ a ∈ l, okA a = true) : ∀ (m i : Nat) (bs : List Bool), i + m = l.length → bs.length ≤ 1000 * i →
    ∃ t, abacistref20_truths_1 l (i : Int) bs = some t ∧ t.2 = (joinB ((l.drop i).flatMap consider) bs).2 ∧ (t.2 = 0 → t.1 = (joinB ((l.drop i).flatMap consider) bs).1)
  | 0, i, bs, h, hb => by
    rw [abacistref20_truths_1_eq, cF (decide_eq_false (by omega)), List.drop_of_length_le (by omega)]
    exact ⟨_, rfl, rfl, fun _ => rfl⟩
  | m + 1, i, bs, h, hb => by
    have hi : i < l.length := by omega
    obtain ⟨h1, h2, h3, h4⟩ := okA_parts (ho _ (getD_mem AZ hi))
    rw [abacistref20_truths_1_eq, cT (decide_eq_true (by omega)), cT (ix hi), Int.toNat_natCast, show l.getD i ([], 0, false, 0, 0) = l.getD i AZ from rfl, dropG AZ hi, List.flatMap_cons, joinB_append]
    cases har : (l.getD i AZ).2.2.1 with
    | false =>
      have hv := h4 _ (getD_mem BL (i := 0) (by omega))
      have hc : consider (l.getD i AZ) = [(l.getD i AZ).1.getD 0 BL] := by
        have e := dropG BL (l := (l.getD i AZ).1) (i := 0) (by omega)
        rw [List.drop_zero, List.drop_of_length_le (by have := h3 har; omega)] at e
        unfold consider
        rw [har]
        refine (List.filter_eq_self.2 fun v _ => rfl).trans e
      rw [hc, Bool.not_false, cond_true, cT (ix hi), cT (ix0 h1), show (l.getD i AZ).1.getD 0 (0, (false, [], []), [], false, 0) = (l.getD i AZ).1.getD 0 BL from rfl, ycTruth, Option.bind_some]
      generalize (l.getD i AZ).1.getD 0 BL = v at hv ⊢
      by_cases hf : (truthV v).2 = 0
      · rw [joinB_ok hf, thenB_ok rfl, decide_eq_true hf, Bool.not_true, cond_false, cT (Nat.ble_eq_true_of_le (by simp only [List.length_cons, List.length_nil]; omega)), wS (by omega)]
        exact yTruths1 l hl ho m (i + 1) _ (by omega) (by rw [List.length_append]; simp; omega)
      · rw [joinB_bad hf, thenB_bad hf, decide_eq_false hf, Bool.not_false, cond_true]
        exact ⟨_, rfl, rfl, fun _ => rfl⟩
    | true =>
      rw [Bool.not_true, cond_false]
      have := yTruths2 l hl i hi h2 h4 (l.getD i AZ).1.length 0 bs (Nat.zero_add _) (by omega)
      rw [List.drop_zero] at this
      have hc : (l.getD i AZ).1.filter (cons1 true) = consider (l.getD i AZ) := by unfold consider; rw [har]
      rw [hc] at this
      have e0 : abacistref20_truths_2 l (i : Int) 0 bs = abacistref20_truths_2 l (i : Int) ((0 : Nat) : Int) bs := rfl
      rw [e0, this]
      have hlen := joinB_len (consider (l.getD i AZ)) bs
      have b3 : (consider (l.getD i AZ)).length ≤ (l.getD i AZ).1.length := List.length_filter_le _ _
      generalize joinB (consider (l.getD i AZ)) bs = r at hlen ⊢
      by_cases hf : r.2 = 0
      · rw [thenB_ok hf, B1, decide_eq_true hf, cond_true]
        exact yTruths1 l hl ho m (i + 1) _ (by omega) (by omega)
      · rw [thenB_bad hf, B1, decide_eq_false hf, cond_false]
        exact ⟨_, rfl, rfl, fun h => absurd h hf⟩
theorem yCount (name : List UInt8) (t : List Bool) (ht : t.length ≤ 100000) (h0 : ¬ t.length = 0) : ∀ (m i n : Nat), i + m = t.length → n ≤ i → abacistref20_joined_1 name t (n : Int) (i : Int) BL = some (finV name t.length (n + tally (t.drop i)))
  | 0, i, n, h, hn => by
    rw [abacistref20_joined_1_eq, cF (decide_eq_false (by omega)), List.drop_of_length_le (by omega), finV, decide_eq_false h0, cond_false]
    show _ = some (cond _ (vTruth (decide (n = t.length))) (cond _ (vTruth (decide (0 < n))) (vTruth (decide (n % 2 = 1)))))
    rw [yvTruth, yvTruth, yvTruth, show decide ((n : Int) = (t.length : Int)) = decide (n = t.length) from decide_eq_decide.2 (by omega), show decide ((n : Int) > 0) = decide (0 < n) from decide_eq_decide.2 (by omega), show decide ((n : Int).tmod 2 = 1) = decide (n % 2 = 1) from decide_eq_decide.2 (by rw [Int.tmod_eq_emod_of_nonneg (by omega)]; omega)]
    unfold nAND nOR
    cases decide (name = [65, 78, 68]) <;> cases decide (name = [79, 82]) <;> rfl
  | m + 1, i, n, h, hn => by
    have hi : i < t.length := by omega
    have j2 : ∀ n' : Nat, abacistref20_joined_2 name t (n' : Int) (i : Int) BL = abacistref20_joined_1 name t (n' : Int) ((i + 1 : Nat) : Int) BL := fun n' => by rw [abacistref20_joined_2_eq, wS (by omega)]
    rw [abacistref20_joined_1_eq, cT (decide_eq_true (by omega)), cT (ix hi), Int.toNat_natCast, wS (by omega), dropG false hi]
    cases hb : t.getD i false
    · rw [cond_false]
      show abacistref20_joined_2 name t (n : Int) (i : Int) BL = _
      rw [j2, yCount name t ht h0 m (i + 1) n (by omega) (by omega)]; rfl
    · rw [cond_true]
      show abacistref20_joined_2 name t ((n + 1 : Nat) : Int) (i : Int) BL = _
      rw [j2, yCount name t ht h0 m (i + 1) (n + 1) (by omega) (by omega), show n + 1 + tally (t.drop (i + 1)) = n + tally (true :: t.drop (i + 1)) by unfold tally; simp; omega]
theorem flat_len : ∀ (l : List Ar), (∀ a ∈ l, a.1.length ≤ 200) → (l.flatMap consider).length ≤ 200 * l.length
  | [], _ => by simp
  | a :: l, h => by
    have := flat_len l fun x hx => h x (by simp [hx])
    have h1 := h a (by simp)
    have b3 : (consider a).length ≤ a.1.length := List.length_filter_le _ _
    rw [List.flatMap_cons, List.length_append, List.length_cons]; omega
theorem yJoined (name : List UInt8) (l : List Ar) (hl : l.length ≤ 25) (ho : ∀ a ∈ l, okA a = true) : abacistref20_joined name l = some (joinV name l) := by
  obtain ⟨t, ht, h1, h2⟩ := yTruths1 l hl ho l.length 0 [] (Nat.zero_add _) (Nat.zero_le _)
  rw [List.drop_zero] at h1 h2
  obtain ⟨s1, s2⟩ := joinB_S (l.flatMap consider) []
  have hlen := joinB_len (l.flatMap consider) []
  have hfl := flat_len l fun a ha => (okA_parts (ho a ha)).2.1
  have e0 : abacistref20_truths_1 l 0 [] = some t := ht
  rw [abacistref20_joined_eq, abacistref20_truths_eq, e0, Option.bind_some, joinV, fin3]
  change _ = (joinS (l.flatMap consider) 0 0).1 at s1
  change _ → _ = (joinS (l.flatMap consider) 0 0).2.1 ∧ _ = (joinS (l.flatMap consider) 0 0).2.2 at s2
  rw [h1, s1]
  by_cases hf : (joinS (l.flatMap consider) 0 0).1 = 0
  · obtain ⟨s3, s4⟩ := s2 (by rw [s1, hf])
    have h3 := h2 (by rw [h1, s1, hf])
    rw [decide_eq_true hf, Bool.not_true, cond_false, cond_true, ← s3, ← s4, h3]
    simp only [List.length_nil] at hlen
    generalize (joinB (l.flatMap consider) []).1 = bs at hlen ⊢
    by_cases hz : bs.length = 0
    · rw [cT (decide_eq_true (by omega)), yvFault, finV, decide_eq_true hz]; rfl
    · rw [cF (decide_eq_false (by omega))]
      have := yCount name bs (by omega) hz bs.length 0 0 (Nat.zero_add _) (Nat.le_refl _)
      rw [List.drop_zero, Nat.zero_add] at this
      exact this
  · rw [decide_eq_false hf, Bool.not_false, cond_true, cond_false, yvFault]; rfl
end Go.Proofs.YtljapieoihecbaaGreatDoor.D
/- Functions of truths: each one, and any; plain Lean; the program's and the reference's. -/
namespace Go.Proofs.YtljapieoihecbaaGreatDoor.D
open Go Go.Proofs.YtljapieoihecbaaGreatDoor.K
open Go.Proofs.YtljapieoihecbaaGreatDoor.P (wS)
theorem ix1 {n : Nat} (h : 2 ≤ n) : (decide ((0 : Nat) ≤ 1) && decide ((1 : Int) < (n : Int))) = true := by simp; omega
theorem ix2 {n : Nat} (h : 3 ≤ n) : (decide ((0 : Nat) ≤ 2) && decide ((2 : Int) < (n : Int))) = true := by simp; omega
theorem rightF (n : Int) : vRight (vFault n) = true := by
  cases h : isF n with
  | true => exact right_fault h
  | false =>
    have : vFault n = vFault 2 := by unfold vFault; rw [h]; rfl
    rw [this]; exact right_fault rfl
def RL (v : List Vl) : Prop := ∀ x ∈ v, vRight x = true
theorem RL.at {v : List Vl} (h : RL v) {i : Nat} (hi : i < v.length) : vRight (v.getD i BL) = true := h _ (getD_mem BL hi)
theorem RL.len {v : List Vl} (h : RL v) {i : Nat} (hi : i < v.length) : (v.getD i BL).2.2.1.length ≤ 9223372036854775807 := by have := right_len (h.at hi); omega
theorem fault0 {v : Vl} (h : vRight v = true) (hk : ¬ v.1 = 4) : cFault v = 0 := by
  unfold cFault
  rw [h, cond_true]
  rcases right_kind h with k | k | k | k | k
  · rw [right0 h k]; rfl
  · rw [right1 h k]; rfl
  · have e := right2 h k
    cases hp : plainV v.2.2.1 with
    | true => rw [e, vText, hp]; rfl
    | false =>
      rw [vText, hp, cond_false] at e
      have := congrArg (fun x : Vl => x.1) e
      simp only [vFault] at this
      omega
  · rw [right3 h k]; rfl
  · exact absurd k hk
def choiceV (v : List Vl) : Vl := cond (!decide ((truthV (v.getD 0 BL)).2 = 0)) (vFault (truthV (v.getD 0 BL)).2) (cond (truthV (v.getD 0 BL)).1 (v.getD 1 BL) (cond (decide (v.length < 3)) (vTruth false) (v.getD 2 BL)))
theorem xChoice (v : List Vl) (hr : RL v) (h2 : 2 ≤ v.length) : flog_choice v = some (choiceV v) := by
  rw [flog_choice_eq, cT (ix0 (by omega)), show v.getD 0 (0, (false, [], []), [], false, 0) = v.getD 0 BL from rfl, xcTruth _ (hr.len (by omega)), Option.bind_some, cT (ix1 h2), xvFault, xvTruth, choiceV]
  by_cases h3 : v.length < 3
  · rw [decide_eq_true h3, decide_eq_true (show (v.length : Int) < 3 by omega)]
    cases decide ((truthV (v.getD 0 BL)).2 = 0) <;> cases (truthV (v.getD 0 BL)).1 <;> rfl
  · rw [decide_eq_false h3, decide_eq_false (show ¬ (v.length : Int) < 3 by omega), cT (ix2 (by omega))]
    cases decide ((truthV (v.getD 0 BL)).2 = 0) <;> cases (truthV (v.getD 0 BL)).1 <;> rfl
theorem yChosen (v : List Vl) (hr : RL v) (h2 : 2 ≤ v.length) (h4 : v.length ≤ 3) : abacistref20_chosen v = some (choiceV v) := by
  rw [abacistref20_chosen_eq, cT (ix0 (by omega)), show v.getD 0 (0, (false, [], []), [], false, 0) = v.getD 0 BL from rfl, ycTruth _, Option.bind_some, cT (ix1 h2), yvFault, yvTruth, choiceV]
  by_cases h3 : v.length < 3
  · rw [decide_eq_true h3, decide_eq_false (show ¬ (v.length : Int) = 3 by omega)]
    cases decide ((truthV (v.getD 0 BL)).2 = 0) <;> cases (truthV (v.getD 0 BL)).1 <;> rfl
  · rw [decide_eq_false h3, decide_eq_true (show (v.length : Int) = 3 by omega), cT (ix2 (by omega))]
    cases decide ((truthV (v.getD 0 BL)).2 = 0) <;> cases (truthV (v.getD 0 BL)).1 <;> rfl
theorem choice_right (v : List Vl) (hr : RL v) (h2 : 2 ≤ v.length) : vRight (choiceV v) = true := by
  unfold choiceV
  cases decide ((truthV (v.getD 0 BL)).2 = 0)
  · exact rightF _
  · cases (truthV (v.getD 0 BL)).1
    · by_cases h3 : v.length < 3
      · rw [decide_eq_true h3]; exact right_truth _
      · rw [decide_eq_false h3]; exact hr.at (by omega)
    · exact hr.at (by omega)
def nthV (v : List Vl) : Vl := cond (!decide ((numV (v.getD 0 BL)).2 = 0)) (vFault (numV (v.getD 0 BL)).2) (cond (!(smallR (truncR (numV (v.getD 0 BL)).1)).2) (vFault 2) (cond (decide ((smallR (truncR (numV (v.getD 0 BL)).1)).1 < 1)) (vFault 2) (cond (decide ((smallR (truncR (numV (v.getD 0 BL)).1)).1 ≥ (v.length : Int))) (vFault 2) (v.getD (smallR (truncR (numV (v.getD 0 BL)).1)).1.toNat BL))))
theorem xNth (v : List Vl) (hr : RL v) (h1 : 1 ≤ v.length) : flog_nth v = some (nthV v) := by
  have n1 : ∀ k, flog_nth_1 v k true BL = some (vFault 2) := fun k => by rw [flog_nth_1_eq, cond_true, xvFault]; rfl
  rw [flog_nth_eq, cT (ix0 h1), show v.getD 0 (0, (false, [], []), [], false, 0) = v.getD 0 BL from rfl, xcNum _ (hr.len (by omega)), Option.bind_some, xvFault, Option.bind_some, xTrunc, Option.bind_some, xSmallR, Option.bind_some, nthV]
  generalize smallR (truncR (numV (v.getD 0 BL)).1) = q
  cases decide ((numV (v.getD 0 BL)).2 = 0)
  · rfl
  · rw [Bool.not_true, cond_false, cond_false]
    cases q.2
    · exact n1 _
    · rw [Bool.not_true, cond_false, cond_false]
      by_cases h2 : q.1 < 1
      · rw [decide_eq_true h2]; exact n1 _
      · rw [decide_eq_false h2, cond_false, cond_false]
        by_cases h3 : q.1 ≥ (v.length : Int)
        · rw [decide_eq_true h3]; exact n1 _
        · rw [decide_eq_false h3, flog_nth_1_eq, cond_false, cond_false, cT (by rw [decide_eq_true (show 0 ≤ q.1 by omega), decide_eq_true (show q.1 < (v.length : Int) by omega)]; rfl)]; rfl
theorem yNth (v : List Vl) (hr : RL v) (h1 : 1 ≤ v.length) (hl : v.length ≤ 25) : abacistref20_nth v = some (nthV v) := by
  have n1 : ∀ k, abacistref20_nth_1 v k true BL = some (vFault 2) := fun k => by rw [abacistref20_nth_1_eq, cond_true, yvFault]; rfl
  have e : IntKind.i64.wrap ((v.length : Int) - 1) = (v.length : Int) - 1 := wrap64 (by omega) (by omega)
  rw [abacistref20_nth_eq, cT (ix0 h1), show v.getD 0 (0, (false, [], []), [], false, 0) = v.getD 0 BL from rfl, ycNum _, Option.bind_some, yvFault, Option.bind_some, yTrunc, Option.bind_some, ySmallR, Option.bind_some, nthV, e]
  generalize smallR (truncR (numV (v.getD 0 BL)).1) = q
  cases decide ((numV (v.getD 0 BL)).2 = 0)
  · rfl
  · rw [Bool.not_true, cond_false, cond_false]
    cases q.2
    · exact n1 _
    · rw [Bool.not_true, cond_false, cond_false]
      by_cases h2 : q.1 < 1
      · rw [decide_eq_true h2]; exact n1 _
      · rw [decide_eq_false h2, cond_false, cond_false]
        by_cases h3 : q.1 ≥ (v.length : Int)
        · rw [decide_eq_true h3, decide_eq_true (show q.1 > (v.length : Int) - 1 by omega)]; exact n1 _
        · rw [decide_eq_false h3, decide_eq_false (show ¬ q.1 > (v.length : Int) - 1 by omega), abacistref20_nth_1_eq, cond_false, cond_false, cT (by rw [decide_eq_true (show 0 ≤ q.1 by omega), decide_eq_true (show q.1 < (v.length : Int) by omega)]; rfl)]; rfl
theorem nth_right (v : List Vl) (hr : RL v) : vRight (nthV v) = true := by
  unfold nthV
  generalize smallR (truncR (numV (v.getD 0 BL)).1) = q
  cases decide ((numV (v.getD 0 BL)).2 = 0)
  · exact rightF _
  · cases q.2
    · exact rightF _
    · by_cases h2 : q.1 < 1
      · rw [decide_eq_true h2]; exact rightF _
      · rw [decide_eq_false h2]
        by_cases h3 : q.1 ≥ (v.length : Int)
        · rw [decide_eq_true h3]; exact rightF _
        · rw [decide_eq_false h3]; exact hr.at (by omega)
def sw (x : Vl) : List Vl → Vl
  | a :: b :: r => cond (decide (a.1 = 4)) a (cond (decide ((cmpV x a).1 = 0)) b (sw x r))
  | [a] => a
  | [] => vFault 6
theorem cmp_fault {x a : Vl} (hx : cFault x = 0) (ha : vRight a = true) : (a.1 = 4 → (cmpV x a).2 ≠ 0 ∧ vFault (cmpV x a).2 = a) ∧ (¬ a.1 = 4 → (cmpV x a).2 = 0) := by
  unfold cmpV
  rw [decide_eq_true hx]
  refine ⟨fun h => ?_, fun h => ?_⟩
  · obtain ⟨h1, h2⟩ := truth_fault ha h
    have hc : cFault a = a.2.2.2.2 := by unfold cFault; rw [ha, cond_true]
    rw [hc, decide_eq_false h2]
    exact ⟨h2, (right4 ha h).symm⟩
  · rw [fault0 ha h]; rfl
theorem xSw (x : Vl) (hx : vRight x = true) (hk : ¬ x.1 = 4) : ∀ (n : Nat) (l : List Vl), l.length ≤ n → l.length ≤ 25 → RL l → flog_switched_1 l x BL = some (sw x l)
  | _, [], _, _, _ => by rw [flog_switched_1_eq]; show (value_Fault 6).bind _ = _; rw [xvFault]; rfl
  | _, [a], _, _, _ => by rw [flog_switched_1_eq]; rfl
  | 0, a :: b :: r, h, _, _ => by simp at h
  | n + 1, a :: b :: r, h, hl, hr => by
    have ha : vRight a = true := hr a (by simp)
    have hrr : RL r := fun y hy => hr y (by simp [hy])
    simp only [List.length_cons] at h hl
    have ih := xSw x hx hk n r (by omega) (by omega) hrr
    obtain ⟨c1, c2⟩ := cmp_fault (fault0 hx hk) ha
    have hlen : ((a :: b :: r).length : Int) = (r.length : Int) + 2 := by simp only [List.length_cons]; omega
    rw [flog_switched_1_eq, cT (decide_eq_true (by omega)), cT (ix0 (by simp)), cT (ix1 (by simp))]
    rw [cT (show (decide ((0 : Nat) ≤ 2) && decide ((2 : Int) ≤ ((a :: b :: r).length : Int))) = true by rw [hlen]; simp; omega)]
    show (coerce_Cmp x a).bind (fun v1 => cond (!decide (v1.2 = 0)) ((value_Fault v1.2).bind fun v2 => some v2) (cond (decide (v1.1 = 0)) (some b) (flog_switched_1 r x BL))) = some (cond (decide (a.1 = 4)) a (cond (decide ((cmpV x a).1 = 0)) b (sw x r)))
    rw [xVCmp x a (by have := right_len hx; omega) (by have := right_len ha; omega), Option.bind_some, ih]
    by_cases h4 : a.1 = 4
    · obtain ⟨d1, d2⟩ := c1 h4
      rw [decide_eq_true h4, decide_eq_false d1, xvFault, d2]; rfl
    · rw [decide_eq_false h4, decide_eq_true (c2 h4)]
      cases decide ((cmpV x a).1 = 0) <;> rfl
theorem ySw (v : List Vl) (hr : RL v) (hl : v.length ≤ 25) (h0 : 1 ≤ v.length) : ∀ (n i : Nat), v.length ≤ i + n → i % 2 = 1 → i ≤ v.length → abacistref20_switched_1 v (i : Int) BL = some (sw (v.getD 0 BL) (v.drop i))
  | n, i, h, hi, hle => by
    have w1 : IntKind.i64.wrap ((i : Int) + 1) = ((i + 1 : Nat) : Int) := wS (by omega)
    have w2 : IntKind.i64.wrap ((i : Int) + 2) = ((i + 2 : Nat) : Int) := by rw [wrap64 (by omega) (by omega)]; omega
    have w3 : IntKind.i64.wrap ((v.length : Int) - 1) = ((v.length - 1 : Nat) : Int) := by rw [wrap64 (by omega) (by omega)]; omega
    rw [abacistref20_switched_1_eq, w1, w2, w3]
    by_cases hlt : i + 1 < v.length
    · cases n with
      | zero => omega
      | succ n =>
        rw [cT (decide_eq_true (by omega)), cT (ix (by omega)), cT (ix (by omega)), cT (ix0 h0), cT (ix (by omega)), cT (ix hlt), Int.toNat_natCast, Int.toNat_natCast, ySw v hr hl h0 n (i + 2) (by omega) (by omega) (by omega), dropG BL (show i < v.length by omega), dropG BL hlt]
        show cond (decide ((v.getD i BL).1 = 4)) (some (v.getD i BL)) ((abacistref09_Cmp (v.getD 0 BL) (v.getD i BL)).bind fun v1 => cond (decide (v1.1 = 0)) (some (v.getD (i + 1) BL)) (some (sw (v.getD 0 BL) (v.drop (i + 2))))) = some (cond (decide ((v.getD i BL).1 = 4)) (v.getD i BL) (cond (decide ((cmpV (v.getD 0 BL) (v.getD i BL)).1 = 0)) (v.getD (i + 1) BL) (sw (v.getD 0 BL) (v.drop (i + 2)))))
        rw [yVCmp, Option.bind_some]
        cases decide ((v.getD i BL).1 = 4) <;> cases decide ((cmpV (v.getD 0 BL) (v.getD i BL)).1 = 0) <;> rfl
    · rw [cF (decide_eq_false (by omega))]
      show cond (decide ((v.length : Int).tmod 2 = 0)) _ _ = _
      have ht : (v.length : Int).tmod 2 = (v.length : Int) % 2 := Int.tmod_eq_emod_of_nonneg (by omega)
      rw [ht]
      by_cases hi2 : i = v.length
      · rw [cF (decide_eq_false (by omega)), List.drop_of_length_le (by omega), yvFault]; rfl
      · have hlast : v.length - 1 = i := by omega
        rw [cT (decide_eq_true (by omega)), cT (ix (by omega)), Int.toNat_natCast, hlast, dropG BL (show i < v.length by omega), List.drop_of_length_le (by omega)]; rfl
theorem sw_right (x : Vl) : ∀ (n : Nat) (l : List Vl), l.length ≤ n → RL l → vRight (sw x l) = true
  | _, [], _, _ => rightF _
  | _, [a], _, hr => hr a (by simp)
  | 0, a :: b :: r, h, _ => by simp at h
  | n + 1, a :: b :: r, h, hr => by
    simp only [List.length_cons] at h
    have ih := sw_right x n r (by omega) fun y hy => hr y (by simp [hy])
    show vRight (cond (decide (a.1 = 4)) a (cond (decide ((cmpV x a).1 = 0)) b (sw x r))) = true
    cases decide (a.1 = 4)
    · cases decide ((cmpV x a).1 = 0)
      · exact ih
      · exact hr b (by simp)
    · exact hr a (by simp)
def nIF : List UInt8 := [73, 70]
def nIFNA : List UInt8 := [73, 70, 78, 65]
def nXOR : List UInt8 := [88, 79, 82]
def nTRUE : List UInt8 := [84, 82, 85, 69]
def nFALSE : List UInt8 := [70, 65, 76, 83, 69]
def nNA : List UInt8 := [78, 65]
def nISBLANK : List UInt8 := [73, 83, 66, 76, 65, 78, 75]
def nISNUMBER : List UInt8 := [73, 83, 78, 85, 77, 66, 69, 82]
def nISTEXT : List UInt8 := [73, 83, 84, 69, 88, 84]
def nISLOGICAL : List UInt8 := [73, 83, 76, 79, 71, 73, 67, 65, 76]
def nISERROR : List UInt8 := [73, 83, 69, 82, 82, 79, 82]
def nISERR : List UInt8 := [73, 83, 69, 82, 82]
def nISNA : List UInt8 := [73, 83, 78, 65]
def nN : List UInt8 := [78]
def nT : List UInt8 := [84]
def nTYPE : List UInt8 := [84, 89, 80, 69]
def nCHOOSE : List UInt8 := [67, 72, 79, 79, 83, 69]
def nSWITCH : List UInt8 := [83, 87, 73, 84, 67, 72]
def Tells (name : List UInt8) (l : List Ar) (v : List Vl) : Prop := ∃ r, dispX name l v = some r ∧ dispY name l v = some r ∧ vRight r = true
theorem zAND (l : List Ar) (v : List Vl) (hl : l.length ≤ 25) (ho : ∀ a ∈ l, okA a = true) : Tells nAND l v := by
  refine ⟨joinV nAND l, ?_, ?_, ?_⟩
  · show flog_Do_5 nAND l nAND true v BL = _
    rw [flog_Do_5_eq, cond_true, xJoined _ l hl ho]; rfl
  · show abacistref20_Do_3 nAND l nAND true v BL = _
    rw [abacistref20_Do_3_eq, cond_true, yJoined _ l hl ho]; rfl
  · unfold joinV fin3 finV
    cases decide ((joinS (l.flatMap consider) 0 0).1 = 0)
    · exact rightF _
    · cases decide ((joinS (l.flatMap consider) 0 0).2.1 = 0)
      · cases decide (nAND = nAND) <;> cases decide (nAND = nOR) <;> exact right_truth _
      · exact rightF _
theorem zOR (l : List Ar) (v : List Vl) (hl : l.length ≤ 25) (ho : ∀ a ∈ l, okA a = true) : Tells nOR l v := by
  refine ⟨joinV nOR l, ?_, ?_, ?_⟩
  · show flog_Do_5 nOR l nOR true v BL = _
    rw [flog_Do_5_eq, cond_true, xJoined _ l hl ho]; rfl
  · show abacistref20_Do_3 nOR l nOR true v BL = _
    rw [abacistref20_Do_3_eq, cond_true, yJoined _ l hl ho]; rfl
  · unfold joinV fin3 finV
    cases decide ((joinS (l.flatMap consider) 0 0).1 = 0)
    · exact rightF _
    · cases decide ((joinS (l.flatMap consider) 0 0).2.1 = 0)
      · cases decide (nOR = nAND) <;> cases decide (nOR = nOR) <;> exact right_truth _
      · exact rightF _
theorem zXOR (l : List Ar) (v : List Vl) (hl : l.length ≤ 25) (ho : ∀ a ∈ l, okA a = true) : Tells nXOR l v := by
  refine ⟨joinV nXOR l, ?_, ?_, ?_⟩
  · show flog_Do_5 nXOR l nXOR true v BL = _
    rw [flog_Do_5_eq, cond_true, xJoined _ l hl ho]; rfl
  · show abacistref20_Do_3 nXOR l nXOR true v BL = _
    rw [abacistref20_Do_3_eq, cond_true, yJoined _ l hl ho]; rfl
  · unfold joinV fin3 finV
    cases decide ((joinS (l.flatMap consider) 0 0).1 = 0)
    · exact rightF _
    · cases decide ((joinS (l.flatMap consider) 0 0).2.1 = 0)
      · cases decide (nXOR = nAND) <;> cases decide (nXOR = nOR) <;> exact right_truth _
      · exact rightF _
theorem zTRUE (l : List Ar) (v : List Vl) : Tells nTRUE l v := by
  refine ⟨vTruth true, ?_, ?_, right_truth _⟩
  · show flog_Do_5 nTRUE l nTRUE false v BL = _
    rw [flog_Do_5_eq]
    show flog_Do_7 nTRUE nTRUE true v BL = _
    rw [flog_Do_7_eq]
    show (value_Truth true).bind _ = _
    rw [xvTruth]; rfl
  · show abacistref20_Do_3 nTRUE l nTRUE false v BL = _
    rw [abacistref20_Do_3_eq]
    show abacistref20_Do_4 nTRUE nTRUE true v BL = _
    rw [abacistref20_Do_4_eq]
    show (abacistref08_Truth true).bind _ = _
    rw [yvTruth]; rfl
theorem zFALSE (l : List Ar) (v : List Vl) : Tells nFALSE l v := by
  refine ⟨vTruth false, ?_, ?_, right_truth _⟩
  · show flog_Do_5 nFALSE l nFALSE false v BL = _
    rw [flog_Do_5_eq]
    show flog_Do_7 nFALSE nFALSE true v BL = _
    rw [flog_Do_7_eq]
    show (value_Truth false).bind _ = _
    rw [xvTruth]; rfl
  · show abacistref20_Do_3 nFALSE l nFALSE false v BL = _
    rw [abacistref20_Do_3_eq]
    show abacistref20_Do_4 nFALSE nFALSE true v BL = _
    rw [abacistref20_Do_4_eq]
    show (abacistref08_Truth false).bind _ = _
    rw [yvTruth]; rfl
theorem zNA (l : List Ar) (v : List Vl) : Tells nNA l v := by
  refine ⟨vFault 6, ?_, ?_, rightF _⟩
  · show flog_Do_5 nNA l nNA false v BL = _
    rw [flog_Do_5_eq]
    show flog_Do_7 nNA nNA false v BL = _
    rw [flog_Do_7_eq]
    show (value_Fault 6).bind _ = _
    rw [xvFault]; rfl
  · show abacistref20_Do_3 nNA l nNA false v BL = _
    rw [abacistref20_Do_3_eq]
    show abacistref20_Do_4 nNA nNA false v BL = _
    rw [abacistref20_Do_4_eq]
    show (abacistref08_Fault 6).bind _ = _
    rw [yvFault]; rfl
theorem zIF (l : List Ar) (v : List Vl) (hr : RL v) (h2 : 2 ≤ v.length) (h3 : v.length ≤ 3) : Tells nIF l v := by
  refine ⟨choiceV v, ?_, ?_, choice_right v hr h2⟩
  · show flog_Do_5 nIF l nIF false v BL = _
    rw [flog_Do_5_eq]
    show flog_Do_7 nIF nIF false v BL = _
    rw [flog_Do_7_eq]
    show (flog_choice v).bind _ = _
    rw [xChoice v hr h2]; rfl
  · show abacistref20_Do_3 nIF l nIF false v BL = _
    rw [abacistref20_Do_3_eq]
    show abacistref20_Do_4 nIF nIF false v BL = _
    rw [abacistref20_Do_4_eq]
    show (abacistref20_chosen v).bind _ = _
    rw [yChosen v hr h2 h3]; rfl
theorem askNA (q : Bool) (v : Vl) : flog_asked_1 [73, 83, 78, 65] q v = some q := by rw [flog_asked_1_eq]; rfl
theorem do9 (q : Bool) (v : List Vl) (h2 : 2 ≤ v.length) : flog_Do_9 q v BL = some (cond q (v.getD 1 BL) (v.getD 0 BL)) := by rw [flog_Do_9_eq, cT (ix1 h2), cT (ix0 (by omega))]; cases q <;> rfl
theorem do5 (q : Bool) (v : List Vl) (h2 : 2 ≤ v.length) : abacistref20_Do_5 q v BL = some (cond q (v.getD 1 BL) (v.getD 0 BL)) := by rw [abacistref20_Do_5_eq, cT (ix1 h2), cT (ix0 (by omega))]; cases q <;> rfl
theorem zIFERROR (l : List Ar) (v : List Vl) (hr : RL v) (h2 : 2 ≤ v.length) : Tells nIFERROR l v := by
  have h1 : 1 ≤ v.length := by omega
  refine ⟨cond (decide ((v.getD 0 BL).1 = 4)) (v.getD 1 BL) (v.getD 0 BL), ?_, ?_, by cases decide ((v.getD 0 BL).1 = 4); exact hr.at (by omega); exact hr.at (by omega)⟩
  · show flog_Do_5 nIFERROR l nIFERROR false v BL = _
    rw [flog_Do_5_eq]
    show flog_Do_7 nIFERROR nIFERROR false v BL = _
    rw [flog_Do_7_eq]
    show flog_Do_8 nIFERROR nIFERROR true v BL = _
    rw [flog_Do_8_eq, cond_true, cT (ix0 h1), show v.getD 0 (0, (false, [], []), [], false, 0) = v.getD 0 BL from rfl]
    show (flog_asked [73, 83, 78, 65] (v.getD 0 BL)).bind (fun v1 => cond v1 (flog_Do_9 true v BL) (cond (decide ((0 : Nat) ≤ 0) && decide ((0 : Int) < (v.length : Int))) (flog_Do_9 (decide ((v.getD 0 BL).1 = 4)) v BL) none)) = _
    rw [cT (ix0 h1), flog_asked_eq, askNA, askNA, do9 _ v h2, do9 _ v h2]
    cases decide ((v.getD 0 BL).1 = 4)
    · rfl
    · cases decide ((v.getD 0 BL).2.2.2.2 = 6) <;> rfl
  · show abacistref20_Do_3 nIFERROR l nIFERROR false v BL = _
    rw [abacistref20_Do_3_eq]
    show abacistref20_Do_4 nIFERROR nIFERROR false v BL = _
    rw [abacistref20_Do_4_eq]
    show cond (decide ((0 : Nat) ≤ 0) && decide ((0 : Int) < (v.length : Int))) (cond (decide ((v.getD 0 BL).1 = 4)) (cond (decide ((0 : Nat) ≤ 1) && decide ((1 : Int) < (v.length : Int))) (some (v.getD 1 BL)) none) (cond (decide ((0 : Nat) ≤ 0) && decide ((0 : Int) < (v.length : Int))) (some (v.getD 0 BL)) none)) none = _
    rw [cT (ix0 h1), cT (ix1 h2), cT (ix0 h1)]
    cases decide ((v.getD 0 BL).1 = 4) <;> rfl
theorem zIFNA (l : List Ar) (v : List Vl) (hr : RL v) (h2 : 2 ≤ v.length) : Tells nIFNA l v := by
  have h1 : 1 ≤ v.length := by omega
  refine ⟨cond (decide ((v.getD 0 BL).1 = 4) && decide ((v.getD 0 BL).2.2.2.2 = 6)) (v.getD 1 BL) (v.getD 0 BL), ?_, ?_, by cases decide ((v.getD 0 BL).1 = 4) && decide ((v.getD 0 BL).2.2.2.2 = 6); exact hr.at (by omega); exact hr.at (by omega)⟩
  · show flog_Do_5 nIFNA l nIFNA false v BL = _
    rw [flog_Do_5_eq]
    show flog_Do_7 nIFNA nIFNA false v BL = _
    rw [flog_Do_7_eq]
    show flog_Do_8 nIFNA nIFNA true v BL = _
    rw [flog_Do_8_eq, cond_true, cT (ix0 h1), show v.getD 0 (0, (false, [], []), [], false, 0) = v.getD 0 BL from rfl]
    show (flog_asked [73, 83, 78, 65] (v.getD 0 BL)).bind (fun v1 => cond v1 (flog_Do_9 true v BL) (flog_Do_9 false v BL)) = _
    rw [flog_asked_eq, askNA, askNA, do9 _ v h2, do9 _ v h2]
    cases decide ((v.getD 0 BL).1 = 4)
    · rfl
    · cases decide ((v.getD 0 BL).2.2.2.2 = 6) <;> rfl
  · show abacistref20_Do_3 nIFNA l nIFNA false v BL = _
    rw [abacistref20_Do_3_eq]
    show abacistref20_Do_4 nIFNA nIFNA false v BL = _
    rw [abacistref20_Do_4_eq]
    show cond (decide ((0 : Nat) ≤ 0) && decide ((0 : Int) < (v.length : Int))) (cond (decide ((v.getD 0 BL).1 = 4)) (cond (decide ((0 : Nat) ≤ 0) && decide ((0 : Int) < (v.length : Int))) (abacistref20_Do_5 (decide ((v.getD 0 BL).2.2.2.2 = 6)) v BL) none) (abacistref20_Do_5 false v BL)) none = _
    rw [cT (ix0 h1), cT (ix0 h1), do5 _ v h2, do5 _ v h2]
    cases decide ((v.getD 0 BL).1 = 4) <;> rfl
theorem zCHOOSE (l : List Ar) (v : List Vl) (hr : RL v) (h1 : 1 ≤ v.length) (hl : v.length ≤ 25) : Tells nCHOOSE l v := by
  refine ⟨nthV v, ?_, ?_, nth_right v hr⟩
  · show flog_Do_5 nCHOOSE l nCHOOSE false v BL = _
    rw [flog_Do_5_eq]
    show flog_Do_7 nCHOOSE nCHOOSE false v BL = _
    rw [flog_Do_7_eq]
    show flog_Do_8 nCHOOSE nCHOOSE false v BL = _
    rw [flog_Do_8_eq]
    show (flog_nth v).bind _ = _
    rw [xNth v hr h1]; rfl
  · show abacistref20_Do_3 nCHOOSE l nCHOOSE false v BL = _
    rw [abacistref20_Do_3_eq]
    show abacistref20_Do_4 nCHOOSE nCHOOSE false v BL = _
    rw [abacistref20_Do_4_eq]
    show abacistref20_Do_6 nCHOOSE nCHOOSE false v BL = _
    rw [abacistref20_Do_6_eq]
    show (abacistref20_nth v).bind _ = _
    rw [yNth v hr h1 hl]; rfl
theorem zSWITCH (l : List Ar) (v : List Vl) (hr : RL v) (h1 : 1 ≤ v.length) (hl : v.length ≤ 25) : Tells nSWITCH l v := by
  have hd : RL (v.drop 1) := fun y hy => hr y (List.mem_of_mem_drop hy)
  have hx := hr.at (i := 0) (by omega)
  refine ⟨cond (decide ((v.getD 0 BL).1 = 4)) (v.getD 0 BL) (sw (v.getD 0 BL) (v.drop 1)), ?_, ?_, by cases decide ((v.getD 0 BL).1 = 4); exact sw_right _ _ _ (Nat.le_refl _) hd; exact hx⟩
  · show flog_Do_5 nSWITCH l nSWITCH false v BL = _
    rw [flog_Do_5_eq]
    show flog_Do_7 nSWITCH nSWITCH false v BL = _
    rw [flog_Do_7_eq]
    show flog_Do_8 nSWITCH nSWITCH false v BL = _
    rw [flog_Do_8_eq]
    show cond (decide ((0 : Nat) ≤ 0) && decide ((0 : Int) < (v.length : Int))) (cond (decide ((0 : Nat) ≤ 1) && decide ((1 : Int) ≤ (v.length : Int))) ((flog_switched (v.getD 0 BL) ((v.drop 1).take (v.length - 1))).bind fun v3 => some v3) none) none = _
    rw [cT (ix0 h1), cT (show (decide ((0 : Nat) ≤ 1) && decide ((1 : Int) ≤ (v.length : Int))) = true by simp; omega), List.take_of_length_le (by rw [List.length_drop]; omega), flog_switched_eq]
    by_cases h4 : (v.getD 0 BL).1 = 4
    · rw [decide_eq_true h4]; rfl
    · rw [decide_eq_false h4]
      show (flog_switched_1 (v.drop 1) (v.getD 0 BL) BL).bind _ = _
      rw [xSw _ hx h4 _ _ (Nat.le_refl _) (by rw [List.length_drop]; omega) hd]; rfl
  · show abacistref20_Do_3 nSWITCH l nSWITCH false v BL = _
    rw [abacistref20_Do_3_eq]
    show abacistref20_Do_4 nSWITCH nSWITCH false v BL = _
    rw [abacistref20_Do_4_eq]
    show abacistref20_Do_6 nSWITCH nSWITCH false v BL = _
    rw [abacistref20_Do_6_eq]
    show (abacistref20_switched v).bind _ = _
    rw [abacistref20_switched_eq, cT (ix0 h1), cT (ix0 h1), show v.getD 0 (0, (false, [], []), [], false, 0) = v.getD 0 BL from rfl]
    have e1 : abacistref20_switched_1 v 1 BL = some (sw (v.getD 0 BL) (v.drop 1)) := ySw v hr hl h1 v.length 1 (by omega) rfl h1
    rw [show abacistref20_switched_1 v 1 (0, (false, [], []), [], false, 0) = abacistref20_switched_1 v 1 BL from rfl, e1]
    cases decide ((v.getD 0 BL).1 = 4) <;> rfl
theorem zNOT (l : List Ar) (v : List Vl) (hr : RL v) (h1 : 1 ≤ v.length) : Tells nNOT l v := by
  have hx := hr.at (i := 0) (by omega)
  have hlen := hr.len (i := 0) (by omega)
  have X : dispX nNOT l v = (flog_one nNOT (v.getD 0 BL)).bind fun v4 => some v4 := by
    show flog_Do_5 nNOT l nNOT false v BL = _
    rw [flog_Do_5_eq]
    show flog_Do_7 nNOT nNOT false v BL = _
    rw [flog_Do_7_eq]
    show flog_Do_8 nNOT nNOT false v BL = _
    rw [flog_Do_8_eq]
    show cond (decide ((0 : Nat) ≤ 0) && decide ((0 : Int) < (v.length : Int))) ((flog_one nNOT (v.getD 0 BL)).bind fun v4 => some v4) none = _
    rw [cT (ix0 h1)]
  have Y : dispY nNOT l v = (abacistref09_Truth (v.getD 0 BL)).bind fun v4 => cond (!decide (v4.2 = 0)) ((abacistref08_Fault v4.2).bind fun v5 => some v5) ((abacistref08_Truth (!v4.1)).bind fun v6 => some v6) := by
    show abacistref20_Do_3 nNOT l nNOT false v BL = _
    rw [abacistref20_Do_3_eq]
    show abacistref20_Do_4 nNOT nNOT false v BL = _
    rw [abacistref20_Do_4_eq]
    show cond (decide ((0 : Nat) ≤ 0) && decide ((0 : Int) < (v.length : Int))) ((abacistref09_Truth (v.getD 0 BL)).bind fun v4 => cond (!decide (v4.2 = 0)) ((abacistref08_Fault v4.2).bind fun v5 => some v5) ((abacistref08_Truth (!v4.1)).bind fun v6 => some v6)) none = _
    rw [cT (ix0 h1)]
  revert X Y hx hlen
  generalize v.getD 0 BL = x
  intro hx hlen X Y
  refine ⟨cond (!decide ((truthV x).2 = 0)) (vFault (truthV x).2) (vTruth (!(truthV x).1)), X.trans ?_, Y.trans ?_, ?_⟩
  · rw [flog_one_eq]
    show ((coerce_Truth x).bind fun v1 => cond (!decide (v1.2 = 0)) ((value_Fault v1.2).bind fun v2 => some v2) ((value_Truth (!v1.1)).bind fun v3 => some v3)).bind _ = _
    rw [xcTruth x hlen, Option.bind_some, xvFault, xvTruth]
    cases decide ((truthV x).2 = 0) <;> rfl
  · rw [ycTruth, Option.bind_some, yvFault, yvTruth]
    cases decide ((truthV x).2 = 0) <;> rfl
  · cases decide ((truthV x).2 = 0)
    · exact rightF _
    · exact right_truth _
theorem zN (l : List Ar) (v : List Vl) (hr : RL v) (h1 : 1 ≤ v.length) : Tells nN l v := by
  have hx := hr.at (i := 0) (by omega)
  have hlen := hr.len (i := 0) (by omega)
  have X : dispX nN l v = (flog_one nN (v.getD 0 BL)).bind fun v4 => some v4 := by
    show flog_Do_5 nN l nN false v BL = _
    rw [flog_Do_5_eq]
    show flog_Do_7 nN nN false v BL = _
    rw [flog_Do_7_eq]
    show flog_Do_8 nN nN false v BL = _
    rw [flog_Do_8_eq]
    show cond (decide ((0 : Nat) ≤ 0) && decide ((0 : Int) < (v.length : Int))) ((flog_one nN (v.getD 0 BL)).bind fun v4 => some v4) none = _
    rw [cT (ix0 h1)]
  have Y : dispY nN l v = (abacistref20_turned nN (v.getD 0 BL)).bind fun v4 => some v4 := by
    show abacistref20_Do_3 nN l nN false v BL = _
    rw [abacistref20_Do_3_eq]
    show abacistref20_Do_4 nN nN false v BL = _
    rw [abacistref20_Do_4_eq]
    show abacistref20_Do_6 nN nN true v BL = _
    rw [abacistref20_Do_6_eq]
    show cond (decide ((0 : Nat) ≤ 0) && decide ((0 : Int) < (v.length : Int))) ((abacistref20_turned nN (v.getD 0 BL)).bind fun v4 => some v4) none = _
    rw [cT (ix0 h1)]
  revert X Y hx hlen
  generalize v.getD 0 BL = x
  intro hx hlen X Y
  refine ⟨cond (decide (x.1 = 1) || decide (x.1 = 4)) x (vNum (ofI (bitI x.2.2.2.1))), X.trans ?_, Y.trans ?_, ?_⟩
  · rw [flog_one_eq]
    show ((flog_plain x).bind fun v4 => some v4).bind _ = _
    have p1 : ∀ q, flog_plain_1 q x BL = some (cond q x (vNum (ofI (bitI x.2.2.2.1)))) := fun q => by
      rw [flog_plain_1_eq, xROf 1 (by omega) (by omega), Option.bind_some, xvNum, Option.bind_some, xROf 0 (by omega) (by omega), Option.bind_some, xvNum]
      cases q <;> cases x.2.2.2.1 <;> rfl
    rw [flog_plain_eq, show (flog_plain_1 true x (0, (false, [], []), [], false, 0)) = flog_plain_1 true x BL from rfl, show (flog_plain_1 (decide (x.1 = 4)) x (0, (false, [], []), [], false, 0)) = flog_plain_1 (decide (x.1 = 4)) x BL from rfl, p1, p1]
    cases decide (x.1 = 1) <;> cases decide (x.1 = 4) <;> rfl
  · have t3 : ∀ q, abacistref20_turned_3 q BL = some (vNum (ofI (bitI q))) := fun q => by
      rw [abacistref20_turned_3_eq, yROf 1 (by omega) (by omega), Option.bind_some, yvNum, Option.bind_some, yROf 0 (by omega) (by omega), Option.bind_some, yvNum]
      cases q <;> rfl
    have t1 : ∀ q, abacistref20_turned_1 q x BL = some (cond q x (vNum (ofI (bitI (cond (decide (x.1 = 3)) x.2.2.2.1 false))))) := fun q => by
      rw [abacistref20_turned_1_eq, t3, t3]
      cases q <;> cases decide (x.1 = 3) <;> rfl
    have hb : x.1 = 1 ∨ x.1 = 4 ∨ (cond (decide (x.1 = 3)) x.2.2.2.1 false) = x.2.2.2.1 := by
      by_cases h4 : x.1 = 4
      · exact .inr (.inl h4)
      · refine .inr (.inr ?_)
        have c := cl_of (fault0 hx h4)
        by_cases h3 : x.1 = 3
        · rw [decide_eq_true h3]; rfl
        · rw [decide_eq_false h3, c.b.resolve_left h3]; rfl
    rw [abacistref20_turned_eq]
    show (cond (decide (x.1 = 4)) (abacistref20_turned_1 true x BL) (abacistref20_turned_1 (decide (x.1 = 1)) x BL)).bind _ = _
    rw [t1, t1]
    rcases hb with h | h | h
    · rw [decide_eq_true h]
      cases decide (x.1 = 4) <;> rfl
    · rw [decide_eq_true h]
      cases decide (x.1 = 1) <;> rfl
    · rw [h]
      cases decide (x.1 = 1) <;> cases decide (x.1 = 4) <;> rfl
  · cases decide (x.1 = 1) || decide (x.1 = 4)
    · exact right_num _
    · exact hx
theorem zT (l : List Ar) (v : List Vl) (hr : RL v) (h1 : 1 ≤ v.length) : Tells nT l v := by
  have hx := hr.at (i := 0) (by omega)
  have hlen := hr.len (i := 0) (by omega)
  have X : dispX nT l v = (flog_one nT (v.getD 0 BL)).bind fun v4 => some v4 := by
    show flog_Do_5 nT l nT false v BL = _
    rw [flog_Do_5_eq]
    show flog_Do_7 nT nT false v BL = _
    rw [flog_Do_7_eq]
    show flog_Do_8 nT nT false v BL = _
    rw [flog_Do_8_eq]
    show cond (decide ((0 : Nat) ≤ 0) && decide ((0 : Int) < (v.length : Int))) ((flog_one nT (v.getD 0 BL)).bind fun v4 => some v4) none = _
    rw [cT (ix0 h1)]
  have Y : dispY nT l v = (abacistref20_turned nT (v.getD 0 BL)).bind fun v4 => some v4 := by
    show abacistref20_Do_3 nT l nT false v BL = _
    rw [abacistref20_Do_3_eq]
    show abacistref20_Do_4 nT nT false v BL = _
    rw [abacistref20_Do_4_eq]
    show abacistref20_Do_6 nT nT true v BL = _
    rw [abacistref20_Do_6_eq]
    show cond (decide ((0 : Nat) ≤ 0) && decide ((0 : Int) < (v.length : Int))) ((abacistref20_turned nT (v.getD 0 BL)).bind fun v4 => some v4) none = _
    rw [cT (ix0 h1)]
  revert X Y hx hlen
  generalize v.getD 0 BL = x
  intro hx hlen X Y
  refine ⟨cond (decide (x.1 = 2) || decide (x.1 = 4)) x (vText []), X.trans ?_, Y.trans ?_, ?_⟩
  · have o1 : ∀ q, flog_one_1 q x BL = some (cond q x (vText [])) := fun q => by
      rw [flog_one_1_eq, xvText _ (by simp)]
      cases q <;> rfl
    rw [flog_one_eq]
    show (cond (decide (x.1 = 2)) (flog_one_1 true x BL) (flog_one_1 (decide (x.1 = 4)) x BL)).bind _ = _
    rw [o1, o1]
    cases decide (x.1 = 2) <;> cases decide (x.1 = 4) <;> rfl
  · have t2 : ∀ q, abacistref20_turned_2 q x BL = some (cond q x (vText [])) := fun q => by
      rw [abacistref20_turned_2_eq, yvText]
      cases q <;> rfl
    rw [abacistref20_turned_eq]
    show (cond (decide (x.1 = 2)) (abacistref20_turned_2 true x BL) (abacistref20_turned_2 (decide (x.1 = 4)) x BL)).bind _ = _
    rw [t2, t2]
    cases decide (x.1 = 2) <;> cases decide (x.1 = 4) <;> rfl
  · cases decide (x.1 = 2) || decide (x.1 = 4)
    · exact right_text (s := []) (by rfl)
    · exact hx
theorem zTYPE (l : List Ar) (v : List Vl) (hr : RL v) (h1 : 1 ≤ v.length) : Tells nTYPE l v := by
  have hx := hr.at (i := 0) (by omega)
  have hlen := hr.len (i := 0) (by omega)
  have X : dispX nTYPE l v = (flog_one nTYPE (v.getD 0 BL)).bind fun v4 => some v4 := by
    show flog_Do_5 nTYPE l nTYPE false v BL = _
    rw [flog_Do_5_eq]
    show flog_Do_7 nTYPE nTYPE false v BL = _
    rw [flog_Do_7_eq]
    show flog_Do_8 nTYPE nTYPE false v BL = _
    rw [flog_Do_8_eq]
    show cond (decide ((0 : Nat) ≤ 0) && decide ((0 : Int) < (v.length : Int))) ((flog_one nTYPE (v.getD 0 BL)).bind fun v4 => some v4) none = _
    rw [cT (ix0 h1)]
  have Y : dispY nTYPE l v = (abacistref20_turned nTYPE (v.getD 0 BL)).bind fun v4 => some v4 := by
    show abacistref20_Do_3 nTYPE l nTYPE false v BL = _
    rw [abacistref20_Do_3_eq]
    show abacistref20_Do_4 nTYPE nTYPE false v BL = _
    rw [abacistref20_Do_4_eq]
    show abacistref20_Do_6 nTYPE nTYPE true v BL = _
    rw [abacistref20_Do_6_eq]
    show cond (decide ((0 : Nat) ≤ 0) && decide ((0 : Int) < (v.length : Int))) ((abacistref20_turned nTYPE (v.getD 0 BL)).bind fun v4 => some v4) none = _
    rw [cT (ix0 h1)]
  revert X Y hx hlen
  generalize v.getD 0 BL = x
  intro hx hlen X Y
  refine ⟨vNum (ofI (cond (decide (x.1 = 2)) 2 (cond (decide (x.1 = 3)) 4 (cond (decide (x.1 = 4)) 16 1)))), X.trans ?_, Y.trans ?_, ?_⟩
  · have k1 : ∀ n : Int, -9223372036854775808 ≤ n → n ≤ 9223372036854775807 → flog_kind_1 n BL = some (vNum (ofI n)) := fun n h0 h1 => by
      rw [flog_kind_1_eq, xROf n h0 h1, Option.bind_some, xvNum]; rfl
    rw [flog_one_eq]
    show ((flog_kind x).bind fun v5 => some v5).bind _ = _
    rw [flog_kind_eq]
    show ((cond (decide (x.1 = 2)) (flog_kind_1 2 BL) (cond (decide (x.1 = 3)) (flog_kind_1 4 BL) (cond (decide (x.1 = 4)) (flog_kind_1 16 BL) (flog_kind_1 1 BL)))).bind fun v5 => some v5).bind _ = _
    rw [k1 2 (by omega) (by omega), k1 4 (by omega) (by omega), k1 16 (by omega) (by omega), k1 1 (by omega) (by omega)]
    cases decide (x.1 = 2) <;> cases decide (x.1 = 3) <;> cases decide (x.1 = 4) <;> rfl
  · rw [abacistref20_turned_eq]
    show (cond (decide (0 ≤ x.1) && decide (x.1 < 5)) ((abacistref05_Of (([1, 1, 2, 4, 16] : List Int).getD x.1.toNat 0)).bind fun v1 => (abacistref08_Num v1).bind fun v2 => some v2) none).bind _ = _
    rcases right_kind hx with h | h | h | h | h <;> rw [h]
    · show ((abacistref05_Of 1).bind _).bind _ = _
      rw [yROf 1 (by omega) (by omega), Option.bind_some, yvNum]; rfl
    · show ((abacistref05_Of 1).bind _).bind _ = _
      rw [yROf 1 (by omega) (by omega), Option.bind_some, yvNum]; rfl
    · show ((abacistref05_Of 2).bind _).bind _ = _
      rw [yROf 2 (by omega) (by omega), Option.bind_some, yvNum]; rfl
    · show ((abacistref05_Of 4).bind _).bind _ = _
      rw [yROf 4 (by omega) (by omega), Option.bind_some, yvNum]; rfl
    · show ((abacistref05_Of 16).bind _).bind _ = _
      rw [yROf 16 (by omega) (by omega), Option.bind_some, yvNum]; rfl
  · exact right_num _
theorem zISBLANK (l : List Ar) (v : List Vl) (hr : RL v) (h1 : 1 ≤ v.length) : Tells nISBLANK l v := by
  have hx := hr.at (i := 0) (by omega)
  have hlen := hr.len (i := 0) (by omega)
  have X : dispX nISBLANK l v = (flog_one nISBLANK (v.getD 0 BL)).bind fun v4 => some v4 := by
    show flog_Do_5 nISBLANK l nISBLANK false v BL = _
    rw [flog_Do_5_eq]
    show flog_Do_7 nISBLANK nISBLANK false v BL = _
    rw [flog_Do_7_eq]
    show flog_Do_8 nISBLANK nISBLANK false v BL = _
    rw [flog_Do_8_eq]
    show cond (decide ((0 : Nat) ≤ 0) && decide ((0 : Int) < (v.length : Int))) ((flog_one nISBLANK (v.getD 0 BL)).bind fun v4 => some v4) none = _
    rw [cT (ix0 h1)]
  have Y : dispY nISBLANK l v = (abacistref20_asked nISBLANK (v.getD 0 BL)).bind fun v4 => some v4 := by
    show abacistref20_Do_3 nISBLANK l nISBLANK false v BL = _
    rw [abacistref20_Do_3_eq]
    show abacistref20_Do_4 nISBLANK nISBLANK false v BL = _
    rw [abacistref20_Do_4_eq]
    show abacistref20_Do_6 nISBLANK nISBLANK false v BL = _
    rw [abacistref20_Do_6_eq]
    show cond (decide ((0 : Nat) ≤ 0) && decide ((0 : Int) < (v.length : Int))) ((abacistref20_asked nISBLANK (v.getD 0 BL)).bind fun v4 => some v4) none = _
    rw [cT (ix0 h1)]
  revert X Y hx hlen
  generalize v.getD 0 BL = x
  intro hx hlen X Y
  refine ⟨vTruth (decide (x.1 = 0)), X.trans ?_, Y.trans ?_, ?_⟩
  · have a1 : ∀ q, flog_asked_1 nISBLANK q x = some (decide (x.1 = 0)) := fun q => by rw [flog_asked_1_eq]; rfl
    rw [flog_one_eq]
    show ((flog_asked nISBLANK x).bind fun v6 => (value_Truth v6).bind fun v7 => some v7).bind _ = _
    have a2 : flog_asked nISBLANK x = some (decide (x.1 = 0)) := by
      rw [flog_asked_eq, a1, a1]
      generalize some (decide (x.1 = 0)) = z
      cases decide (x.1 = 4) <;> rfl
    rw [a2, Option.bind_some, xvTruth]; rfl
  · rw [abacistref20_asked_eq]
    show ((abacistref08_Truth (decide (x.1 = 0))).bind _).bind _ = _
    rw [yvTruth]; rfl
  · exact right_truth _
theorem zISNUMBER (l : List Ar) (v : List Vl) (hr : RL v) (h1 : 1 ≤ v.length) : Tells nISNUMBER l v := by
  have hx := hr.at (i := 0) (by omega)
  have hlen := hr.len (i := 0) (by omega)
  have X : dispX nISNUMBER l v = (flog_one nISNUMBER (v.getD 0 BL)).bind fun v4 => some v4 := by
    show flog_Do_5 nISNUMBER l nISNUMBER false v BL = _
    rw [flog_Do_5_eq]
    show flog_Do_7 nISNUMBER nISNUMBER false v BL = _
    rw [flog_Do_7_eq]
    show flog_Do_8 nISNUMBER nISNUMBER false v BL = _
    rw [flog_Do_8_eq]
    show cond (decide ((0 : Nat) ≤ 0) && decide ((0 : Int) < (v.length : Int))) ((flog_one nISNUMBER (v.getD 0 BL)).bind fun v4 => some v4) none = _
    rw [cT (ix0 h1)]
  have Y : dispY nISNUMBER l v = (abacistref20_asked nISNUMBER (v.getD 0 BL)).bind fun v4 => some v4 := by
    show abacistref20_Do_3 nISNUMBER l nISNUMBER false v BL = _
    rw [abacistref20_Do_3_eq]
    show abacistref20_Do_4 nISNUMBER nISNUMBER false v BL = _
    rw [abacistref20_Do_4_eq]
    show abacistref20_Do_6 nISNUMBER nISNUMBER false v BL = _
    rw [abacistref20_Do_6_eq]
    show cond (decide ((0 : Nat) ≤ 0) && decide ((0 : Int) < (v.length : Int))) ((abacistref20_asked nISNUMBER (v.getD 0 BL)).bind fun v4 => some v4) none = _
    rw [cT (ix0 h1)]
  revert X Y hx hlen
  generalize v.getD 0 BL = x
  intro hx hlen X Y
  refine ⟨vTruth (decide (x.1 = 1)), X.trans ?_, Y.trans ?_, ?_⟩
  · have a1 : ∀ q, flog_asked_1 nISNUMBER q x = some (decide (x.1 = 1)) := fun q => by rw [flog_asked_1_eq]; rfl
    rw [flog_one_eq]
    show ((flog_asked nISNUMBER x).bind fun v6 => (value_Truth v6).bind fun v7 => some v7).bind _ = _
    have a2 : flog_asked nISNUMBER x = some (decide (x.1 = 1)) := by
      rw [flog_asked_eq, a1, a1]
      generalize some (decide (x.1 = 1)) = z
      cases decide (x.1 = 4) <;> rfl
    rw [a2, Option.bind_some, xvTruth]; rfl
  · rw [abacistref20_asked_eq]
    show ((abacistref08_Truth (decide (x.1 = 1))).bind _).bind _ = _
    rw [yvTruth]; rfl
  · exact right_truth _
theorem zISTEXT (l : List Ar) (v : List Vl) (hr : RL v) (h1 : 1 ≤ v.length) : Tells nISTEXT l v := by
  have hx := hr.at (i := 0) (by omega)
  have hlen := hr.len (i := 0) (by omega)
  have X : dispX nISTEXT l v = (flog_one nISTEXT (v.getD 0 BL)).bind fun v4 => some v4 := by
    show flog_Do_5 nISTEXT l nISTEXT false v BL = _
    rw [flog_Do_5_eq]
    show flog_Do_7 nISTEXT nISTEXT false v BL = _
    rw [flog_Do_7_eq]
    show flog_Do_8 nISTEXT nISTEXT false v BL = _
    rw [flog_Do_8_eq]
    show cond (decide ((0 : Nat) ≤ 0) && decide ((0 : Int) < (v.length : Int))) ((flog_one nISTEXT (v.getD 0 BL)).bind fun v4 => some v4) none = _
    rw [cT (ix0 h1)]
  have Y : dispY nISTEXT l v = (abacistref20_asked nISTEXT (v.getD 0 BL)).bind fun v4 => some v4 := by
    show abacistref20_Do_3 nISTEXT l nISTEXT false v BL = _
    rw [abacistref20_Do_3_eq]
    show abacistref20_Do_4 nISTEXT nISTEXT false v BL = _
    rw [abacistref20_Do_4_eq]
    show abacistref20_Do_6 nISTEXT nISTEXT false v BL = _
    rw [abacistref20_Do_6_eq]
    show cond (decide ((0 : Nat) ≤ 0) && decide ((0 : Int) < (v.length : Int))) ((abacistref20_asked nISTEXT (v.getD 0 BL)).bind fun v4 => some v4) none = _
    rw [cT (ix0 h1)]
  revert X Y hx hlen
  generalize v.getD 0 BL = x
  intro hx hlen X Y
  refine ⟨vTruth (decide (x.1 = 2)), X.trans ?_, Y.trans ?_, ?_⟩
  · have a1 : ∀ q, flog_asked_1 nISTEXT q x = some (decide (x.1 = 2)) := fun q => by rw [flog_asked_1_eq]; rfl
    rw [flog_one_eq]
    show ((flog_asked nISTEXT x).bind fun v6 => (value_Truth v6).bind fun v7 => some v7).bind _ = _
    have a2 : flog_asked nISTEXT x = some (decide (x.1 = 2)) := by
      rw [flog_asked_eq, a1, a1]
      generalize some (decide (x.1 = 2)) = z
      cases decide (x.1 = 4) <;> rfl
    rw [a2, Option.bind_some, xvTruth]; rfl
  · rw [abacistref20_asked_eq]
    show ((abacistref08_Truth (decide (x.1 = 2))).bind _).bind _ = _
    rw [yvTruth]; rfl
  · exact right_truth _
theorem zISLOGICAL (l : List Ar) (v : List Vl) (hr : RL v) (h1 : 1 ≤ v.length) : Tells nISLOGICAL l v := by
  have hx := hr.at (i := 0) (by omega)
  have hlen := hr.len (i := 0) (by omega)
  have X : dispX nISLOGICAL l v = (flog_one nISLOGICAL (v.getD 0 BL)).bind fun v4 => some v4 := by
    show flog_Do_5 nISLOGICAL l nISLOGICAL false v BL = _
    rw [flog_Do_5_eq]
    show flog_Do_7 nISLOGICAL nISLOGICAL false v BL = _
    rw [flog_Do_7_eq]
    show flog_Do_8 nISLOGICAL nISLOGICAL false v BL = _
    rw [flog_Do_8_eq]
    show cond (decide ((0 : Nat) ≤ 0) && decide ((0 : Int) < (v.length : Int))) ((flog_one nISLOGICAL (v.getD 0 BL)).bind fun v4 => some v4) none = _
    rw [cT (ix0 h1)]
  have Y : dispY nISLOGICAL l v = (abacistref20_asked nISLOGICAL (v.getD 0 BL)).bind fun v4 => some v4 := by
    show abacistref20_Do_3 nISLOGICAL l nISLOGICAL false v BL = _
    rw [abacistref20_Do_3_eq]
    show abacistref20_Do_4 nISLOGICAL nISLOGICAL false v BL = _
    rw [abacistref20_Do_4_eq]
    show abacistref20_Do_6 nISLOGICAL nISLOGICAL false v BL = _
    rw [abacistref20_Do_6_eq]
    show cond (decide ((0 : Nat) ≤ 0) && decide ((0 : Int) < (v.length : Int))) ((abacistref20_asked nISLOGICAL (v.getD 0 BL)).bind fun v4 => some v4) none = _
    rw [cT (ix0 h1)]
  revert X Y hx hlen
  generalize v.getD 0 BL = x
  intro hx hlen X Y
  refine ⟨vTruth (decide (x.1 = 3)), X.trans ?_, Y.trans ?_, ?_⟩
  · have a1 : ∀ q, flog_asked_1 nISLOGICAL q x = some (decide (x.1 = 3)) := fun q => by rw [flog_asked_1_eq]; rfl
    rw [flog_one_eq]
    show ((flog_asked nISLOGICAL x).bind fun v6 => (value_Truth v6).bind fun v7 => some v7).bind _ = _
    have a2 : flog_asked nISLOGICAL x = some (decide (x.1 = 3)) := by
      rw [flog_asked_eq, a1, a1]
      generalize some (decide (x.1 = 3)) = z
      cases decide (x.1 = 4) <;> rfl
    rw [a2, Option.bind_some, xvTruth]; rfl
  · rw [abacistref20_asked_eq]
    show ((abacistref08_Truth (decide (x.1 = 3))).bind _).bind _ = _
    rw [yvTruth]; rfl
  · exact right_truth _
theorem zISERROR (l : List Ar) (v : List Vl) (hr : RL v) (h1 : 1 ≤ v.length) : Tells nISERROR l v := by
  have hx := hr.at (i := 0) (by omega)
  have hlen := hr.len (i := 0) (by omega)
  have X : dispX nISERROR l v = (flog_one nISERROR (v.getD 0 BL)).bind fun v4 => some v4 := by
    show flog_Do_5 nISERROR l nISERROR false v BL = _
    rw [flog_Do_5_eq]
    show flog_Do_7 nISERROR nISERROR false v BL = _
    rw [flog_Do_7_eq]
    show flog_Do_8 nISERROR nISERROR false v BL = _
    rw [flog_Do_8_eq]
    show cond (decide ((0 : Nat) ≤ 0) && decide ((0 : Int) < (v.length : Int))) ((flog_one nISERROR (v.getD 0 BL)).bind fun v4 => some v4) none = _
    rw [cT (ix0 h1)]
  have Y : dispY nISERROR l v = (abacistref20_asked nISERROR (v.getD 0 BL)).bind fun v4 => some v4 := by
    show abacistref20_Do_3 nISERROR l nISERROR false v BL = _
    rw [abacistref20_Do_3_eq]
    show abacistref20_Do_4 nISERROR nISERROR false v BL = _
    rw [abacistref20_Do_4_eq]
    show abacistref20_Do_6 nISERROR nISERROR false v BL = _
    rw [abacistref20_Do_6_eq]
    show cond (decide ((0 : Nat) ≤ 0) && decide ((0 : Int) < (v.length : Int))) ((abacistref20_asked nISERROR (v.getD 0 BL)).bind fun v4 => some v4) none = _
    rw [cT (ix0 h1)]
  revert X Y hx hlen
  generalize v.getD 0 BL = x
  intro hx hlen X Y
  refine ⟨vTruth (decide (x.1 = 4)), X.trans ?_, Y.trans ?_, ?_⟩
  · have a1 : ∀ q, flog_asked_1 nISERROR q x = some (decide (x.1 = 4)) := fun q => by rw [flog_asked_1_eq]; rfl
    rw [flog_one_eq]
    show ((flog_asked nISERROR x).bind fun v6 => (value_Truth v6).bind fun v7 => some v7).bind _ = _
    have a2 : flog_asked nISERROR x = some (decide (x.1 = 4)) := by
      rw [flog_asked_eq, a1, a1]
      generalize some (decide (x.1 = 4)) = z
      cases decide (x.1 = 4) <;> rfl
    rw [a2, Option.bind_some, xvTruth]; rfl
  · rw [abacistref20_asked_eq]
    show ((abacistref08_Truth (decide (x.1 = 4))).bind _).bind _ = _
    rw [yvTruth]; rfl
  · exact right_truth _
theorem zISERR (l : List Ar) (v : List Vl) (hr : RL v) (h1 : 1 ≤ v.length) : Tells nISERR l v := by
  have hx := hr.at (i := 0) (by omega)
  have hlen := hr.len (i := 0) (by omega)
  have X : dispX nISERR l v = (flog_one nISERR (v.getD 0 BL)).bind fun v4 => some v4 := by
    show flog_Do_5 nISERR l nISERR false v BL = _
    rw [flog_Do_5_eq]
    show flog_Do_7 nISERR nISERR false v BL = _
    rw [flog_Do_7_eq]
    show flog_Do_8 nISERR nISERR false v BL = _
    rw [flog_Do_8_eq]
    show cond (decide ((0 : Nat) ≤ 0) && decide ((0 : Int) < (v.length : Int))) ((flog_one nISERR (v.getD 0 BL)).bind fun v4 => some v4) none = _
    rw [cT (ix0 h1)]
  have Y : dispY nISERR l v = (abacistref20_asked nISERR (v.getD 0 BL)).bind fun v4 => some v4 := by
    show abacistref20_Do_3 nISERR l nISERR false v BL = _
    rw [abacistref20_Do_3_eq]
    show abacistref20_Do_4 nISERR nISERR false v BL = _
    rw [abacistref20_Do_4_eq]
    show abacistref20_Do_6 nISERR nISERR false v BL = _
    rw [abacistref20_Do_6_eq]
    show cond (decide ((0 : Nat) ≤ 0) && decide ((0 : Int) < (v.length : Int))) ((abacistref20_asked nISERR (v.getD 0 BL)).bind fun v4 => some v4) none = _
    rw [cT (ix0 h1)]
  revert X Y hx hlen
  generalize v.getD 0 BL = x
  intro hx hlen X Y
  refine ⟨vTruth (decide (x.1 = 4) && !decide (x.2.2.2.2 = 6)), X.trans ?_, Y.trans ?_, ?_⟩
  · have a1 : ∀ q, flog_asked_1 nISERR q x = some (cond (decide (x.1 = 4)) (!q) false) := fun q => by
      rw [flog_asked_1_eq]
      show cond (decide (x.1 = 4)) (some (!q)) (some false) = _
      cases decide (x.1 = 4) <;> rfl
    rw [flog_one_eq]
    show ((flog_asked nISERR x).bind fun v6 => (value_Truth v6).bind fun v7 => some v7).bind _ = _
    rw [flog_asked_eq, a1, a1]
    cases decide (x.1 = 4)
    · show ((value_Truth _).bind _).bind _ = _
      rw [xvTruth]; rfl
    · show ((value_Truth _).bind _).bind _ = _
      rw [xvTruth]; rfl
  · rw [abacistref20_asked_eq]
    show (cond (decide (x.1 = 4)) ((abacistref08_Truth (!decide (x.2.2.2.2 = 6))).bind fun v6 => some v6) ((abacistref08_Truth false).bind fun v7 => some v7)).bind _ = _
    rw [yvTruth, yvTruth]
    cases decide (x.1 = 4) <;> rfl
  · exact right_truth _
theorem zISNA (l : List Ar) (v : List Vl) (hr : RL v) (h1 : 1 ≤ v.length) : Tells nISNA l v := by
  have hx := hr.at (i := 0) (by omega)
  have hlen := hr.len (i := 0) (by omega)
  have X : dispX nISNA l v = (flog_one nISNA (v.getD 0 BL)).bind fun v4 => some v4 := by
    show flog_Do_5 nISNA l nISNA false v BL = _
    rw [flog_Do_5_eq]
    show flog_Do_7 nISNA nISNA false v BL = _
    rw [flog_Do_7_eq]
    show flog_Do_8 nISNA nISNA false v BL = _
    rw [flog_Do_8_eq]
    show cond (decide ((0 : Nat) ≤ 0) && decide ((0 : Int) < (v.length : Int))) ((flog_one nISNA (v.getD 0 BL)).bind fun v4 => some v4) none = _
    rw [cT (ix0 h1)]
  have Y : dispY nISNA l v = (abacistref20_asked nISNA (v.getD 0 BL)).bind fun v4 => some v4 := by
    show abacistref20_Do_3 nISNA l nISNA false v BL = _
    rw [abacistref20_Do_3_eq]
    show abacistref20_Do_4 nISNA nISNA false v BL = _
    rw [abacistref20_Do_4_eq]
    show abacistref20_Do_6 nISNA nISNA false v BL = _
    rw [abacistref20_Do_6_eq]
    show cond (decide ((0 : Nat) ≤ 0) && decide ((0 : Int) < (v.length : Int))) ((abacistref20_asked nISNA (v.getD 0 BL)).bind fun v4 => some v4) none = _
    rw [cT (ix0 h1)]
  revert X Y hx hlen
  generalize v.getD 0 BL = x
  intro hx hlen X Y
  refine ⟨vTruth (decide (x.1 = 4) && decide (x.2.2.2.2 = 6)), X.trans ?_, Y.trans ?_, ?_⟩
  · have a1 : ∀ q, flog_asked_1 nISNA q x = some (q) := fun q => by
      rw [flog_asked_1_eq]
      rfl
    rw [flog_one_eq]
    show ((flog_asked nISNA x).bind fun v6 => (value_Truth v6).bind fun v7 => some v7).bind _ = _
    rw [flog_asked_eq, a1, a1]
    cases decide (x.1 = 4)
    · show ((value_Truth _).bind _).bind _ = _
      rw [xvTruth]; rfl
    · show ((value_Truth _).bind _).bind _ = _
      rw [xvTruth]; rfl
  · rw [abacistref20_asked_eq]
    show (cond (decide (x.1 = 4)) ((abacistref08_Truth (decide (x.2.2.2.2 = 6))).bind fun v6 => some v6) ((abacistref08_Truth false).bind fun v7 => some v7)).bind _ = _
    rw [yvTruth, yvTruth]
    cases decide (x.1 = 4) <;> rfl
  · exact right_truth _
end Go.Proofs.YtljapieoihecbaaGreatDoor.D
