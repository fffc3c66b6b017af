/- Part 7 of the proof: the machine, the tables and the pure laws that the last text joins. -/
import Derived.Test.YtenebjaipfcflaaDoorZ6
import Derived.Lib.IndexBytes
import Derived.Test.YtenebjaipfcflaaDoorZ4
/- Fractions: plain Lean; the program's and the reference's. -/
set_option linter.unusedVariables false
set_option linter.unusedSimpArgs false
namespace Go.Proofs.YtenebjaipfcflaaDoor.D
open Go Go.Proofs.YtenebjaipfcflaaDoor.K
open Go.Proofs.YtenebjaipfcflaaDoor.P (nat val divmod small val_nat nat_zero nat_eq_nil nat_val_length nat_length_le len_mono val_lt nat_inj sgnv powR powV blen blen_bounds blen_zero nat_one mod_u64)
def tidy (s : List UInt8) : Bool := decide (s.length ≤ 32) && decide (nat (val s) = s)
def right (r : Rt) : Bool := tidy r.2.1 && (tidy r.2.2 && (!decide (r.2.2 = []) && cond (decide (r.2.1 = [])) (!r.1 && decide (r.2.2 = [1])) (decide (Nat.gcd (val r.2.1) (val r.2.2) = 1))))
theorem natOne (n : Nat) : decide (nat n = [1]) = decide (n = 1) := decide_eq_decide.2 (by rw [← nat_one, nat_inj])
def well (r : Rt) : Rt := cond (right r) r (false, [], [1])
/-- A fraction's form. -/
structure Fm (s : Bool) (n d : Nat) : Prop where
  nl : (nat n).length ≤ 32
  dl : (nat d).length ≤ 32
  pos : 0 < d
  co : Nat.gcd n d = 1
  z : n = 0 → s = false
theorem tidy_of {n : Nat} (h : (nat n).length ≤ 32) : tidy (nat n) = true := by
  unfold tidy
  rw [val_nat, decide_eq_true h, decide_eq_true rfl]; rfl
theorem Fm.right {s : Bool} {n d : Nat} (h : Fm s n d) : right (s, nat n, nat d) = true := by
  unfold D.right
  have hd : decide (nat d = []) = false := decide_eq_false fun e => by have := nat_eq_nil.1 e; have := h.pos; omega
  simp only [tidy_of h.nl, tidy_of h.dl, hd, nilD, natOne, val_nat]
  by_cases h0 : n = 0
  · have hs := h.z h0
    have hc := h.co
    rw [h0, Nat.gcd_zero_left] at hc
    rw [decide_eq_true h0, hs, decide_eq_true hc]; rfl
  · rw [decide_eq_false h0, decide_eq_true h.co]; rfl
theorem Fm.zero : Fm false 0 1 := ⟨by rw [nat_zero]; simp, by rw [nat_one]; simp, by omega, rfl, fun _ => rfl⟩
theorem Fm.well {s : Bool} {n d : Nat} (h : Fm s n d) : well (s, nat n, nat d) = (s, nat n, nat d) := by unfold D.well; rw [h.right]; rfl
/-! ### making -/
def make (x y : Wh) : Rt × Int :=
  if val y.2 = 0 then ((false, [], []), 5)
  else if 32 < (nat (val x.2 / Nat.gcd (val x.2) (val y.2))).length ∨ 32 < (nat (val y.2 / Nat.gcd (val x.2) (val y.2))).length then ((false, [], []), 4)
  else ((!(x.1 == y.1) && !decide (val x.2 / Nat.gcd (val x.2) (val y.2) = 0), nat (val x.2 / Nat.gcd (val x.2) (val y.2)), nat (val y.2 / Nat.gcd (val x.2) (val y.2))), 0)
theorem xMake (x y : Wh) (hx : x.2.length ≤ 1000) (hy : y.2.length ≤ 1000) : rat_Make x y = some (make x y) := by
  have l1 := nat_val_length x.2
  have l2 := nat_val_length y.2
  rw [rat_Make_eq, xTrim _ (by omega), Option.bind_some, xTrim _ (by omega), Option.bind_some, nilD, make]
  by_cases h0 : val y.2 = 0
  · rw [cT (decide_eq_true h0), if_pos h0]
  · rw [cF (decide_eq_false h0), if_neg h0, xGcd _ _ (by omega) (by omega), Option.bind_some, val_nat, val_nat, natOne]
    have hg : 0 < Nat.gcd (val x.2) (val y.2) := Nat.gcd_pos_of_pos_right _ (by omega)
    generalize hG : Nat.gcd (val x.2) (val y.2) = g at hg
    have hgl : (nat g).length ≤ 1000 := by
      have : g ≤ val y.2 := by rw [← hG]; exact Nat.gcd_le_right _ (by omega)
      exact Nat.le_trans (len_mono this) (by omega)
    have step : ∀ a b : Nat, rat_Make_1 (nat a) (nat b) x y (false, [], []) = some (if 32 < (nat a).length ∨ 32 < (nat b).length then ((false, [], []), 4) else ((!(x.1 == y.1) && !decide (a = 0), nat a, nat b), 0)) := by
      intro a b
      rw [rat_Make_1_eq]
      simp only [rat_Make_2_eq, nilD]
      by_cases h1 : 32 < (nat a).length
      · rw [cT (decide_eq_true (by omega)), if_pos (.inl h1)]; rfl
      · rw [cF (decide_eq_false (by omega))]
        by_cases h2 : 32 < (nat b).length
        · rw [cT (decide_eq_true (by omega)), if_pos (.inr h2)]
        · rw [cF (decide_eq_false (by omega)), if_neg (by omega)]
          by_cases h3 : a = 0
          · simp [h3]
          · simp [h3]
    by_cases h1 : g = 1
    · rw [cF (by rw [decide_eq_true h1]; rfl), step, h1, Nat.div_one, Nat.div_one]
    · have e1 : divide_DivMod (nat (val x.2)) (nat g) = some (nat (val x.2 / g), nat (val x.2 % g), 0) := by rw [xDiv _ _ (by omega) (by omega), val_nat, val_nat, divmod, if_neg (by omega)]
      have e2 : divide_DivMod (nat (val y.2)) (nat g) = some (nat (val y.2 / g), nat (val y.2 % g), 0) := by rw [xDiv _ _ (by omega) (by omega), val_nat, val_nat, divmod, if_neg (by omega)]
      rw [cT (by rw [decide_eq_false h1]; rfl), e1, Option.bind_some, e2, Option.bind_some, step]
/-! ### small ones -/
theorem abs_len (n : Int) (h0 : -9223372036854775808 ≤ n) (h1 : n ≤ 9223372036854775807) : (nat n.natAbs).length ≤ 8 := nat_length_le (by show n.natAbs < 18446744073709551616; omega)
theorem Fm.of {n : Int} (h0 : -9223372036854775808 ≤ n) (h1 : n ≤ 9223372036854775807) : Fm (decide (n < 0)) n.natAbs 1 := by
  have := abs_len n h0 h1
  exact ⟨by omega, by rw [nat_one]; simp, by omega, Nat.gcd_one_right _, fun h => decide_eq_false (by omega)⟩
/-! ### signs, order -/
/-! ### opposites, amounts -/
def negR (r : Rt) : Rt := (!(well r).1 && !decide ((well r).2.1 = []), (well r).2)
theorem Fm.neg {s : Bool} {n d : Nat} (h : Fm s n d) : negR (s, nat n, nat d) = (!s && !decide (n = 0), nat n, nat d) := by unfold negR; rw [h.well, nilD]
end Go.Proofs.YtenebjaipfcflaaDoor.D

/- Numbers as texts: plain Lean; the program's and the reference's. -/
set_option linter.unusedVariables false
set_option linter.unusedSimpArgs false
namespace Go.Proofs.YtenebjaipfcflaaDoor.D
open Go Go.Proofs.YtenebjaipfcflaaDoor.K
open Go.Proofs.YtenebjaipfcflaaDoor.P (nat val divmod small val_nat nat_zero nat_eq_nil nat_val_length nat_length_le len_mono val_lt nat_inj sgnv powR powV nat_one wS nat_ten_len inC dv good dig dig_le dv_nil dv_snoc dv_append dv_cons dv_lt decT decT_good decT_dv decT_ne decT_len)
/-! ### texts -/
def pos (c : UInt8) : List UInt8 → Option Nat
  | [] => none
  | b :: s => if b = c then some 0 else (pos c s).map (· + 1)
def cutV (c : UInt8) (s : List UInt8) : List UInt8 × List UInt8 × Bool :=
  match pos c s with
  | none => (s, [], false)
  | some k => (s.take k, s.drop (k + 1), true)
theorem indexByte_pos (c : UInt8) : ∀ s : List UInt8, Lib.indexByte s c = (match pos c s with
    | none => -1
    | some k => (k : Int))
  | [] => rfl
  | b :: s => by
    simp only [Lib.indexByte, pos, indexByte_pos c s]
    by_cases h : b = c
    · simp [h]
    · rw [if_neg h, if_neg (by simpa using h)]
      cases pos c s with
      | none => rfl
      | some k => simp
theorem pos_lt {c : UInt8} : ∀ {s : List UInt8} {k : Nat}, pos c s = some k → k < s.length
  | [], k, h => by simp [pos] at h
  | b :: s, k, h => by
    simp only [pos] at h
    split at h
    · cases h; simp
    · cases hp : pos c s with
      | none => rw [hp] at h; cases h
      | some j => rw [hp] at h; have := pos_lt hp; simp at h; simp; omega
theorem xCut (c : UInt8) (s : List UInt8) (h : s.length < 4294967281) : strings_Cut s [c] = some (cutV c s) := by
  refine (top_call ..).trans ?_
  show cutF (s, [c]) = _
  unfold cutF
  rw [decide_eq_true h]
  show some (Lib.cut s [c]) = _
  congr 1
  unfold Lib.cut cutV
  rw [Lib.index_one, indexByte_pos]
  cases pos c s with
  | none => rfl
  | some k => simp only [Int.toNat_natCast]; rw [if_pos (by omega)]; rfl
theorem getD_drop {s : List UInt8} {i : Nat} (h : i < s.length) : s.drop i = s.getD i 0 :: s.drop (i + 1) := by rw [List.drop_eq_getElem_cons h, good_get h]
def dg (s : List UInt8) : Bool := good s && !decide (s = [])
theorem xDigits1 (s : List UInt8) (hs : s.length ≤ 9223372036854775807) : ∀ (m i : Nat), i + m = s.length → numtext_digits_1 s (s.map fun b => (b.toNat : Int)) ((s.map fun b => (b.toNat : Int)).length : Int) (i : Int) = some (good (s.drop i) && !decide (s = []))
  | 0, i, h => by
    rw [numtext_digits_1_eq, cF (decide_eq_false (by rw [List.length_map]; omega)), List.drop_of_length_le (by omega)]; rfl
  | m + 1, i, h => by
    have hi : i < s.length := by omega
    have hg : (s.map fun b => (b.toNat : Int)).getD (i : Int).toNat 0 = ((s.getD i 0).toNat : Int) := by simp [List.getD, hi]
    have next : numtext_digits_2 s (s.map fun b => (b.toNat : Int)) ((s.map fun b => (b.toNat : Int)).length : Int) (i : Int) false = some (good (s.drop (i + 1)) && !decide (s = [])) := by
      rw [numtext_digits_2_eq, cond_false, wS (by omega)]; exact xDigits1 s hs m (i + 1) (by omega)
    have stop : numtext_digits_2 s (s.map fun b => (b.toNat : Int)) ((s.map fun b => (b.toNat : Int)).length : Int) (i : Int) true = some false := by rw [numtext_digits_2_eq, cond_true]
    rw [numtext_digits_1_eq, cT (decide_eq_true (by rw [List.length_map]; omega)), cT (by rw [List.length_map]; exact ix hi), hg, good_drop hi]
    generalize s.getD i 0 = c
    by_cases h1 : c.toNat < 48
    · rw [cT (decide_eq_true (by omega)), stop, show dig c = false by unfold dig; simp; omega]; rfl
    · rw [cF (decide_eq_false (by omega))]
      by_cases h2 : c.toNat > 57
      · rw [decide_eq_true (show (c.toNat : Int) > 57 by omega), stop, show dig c = false by unfold dig; simp; omega]; rfl
      · rw [decide_eq_false (show ¬ (c.toNat : Int) > 57 by omega), next, show dig c = true by unfold dig; simp; omega]; rfl
theorem xDigits (s : List UInt8) (hs : s.length ≤ 9223372036854775807) : numtext_digits s = some (dg s) := (numtext_digits_eq s).trans (xDigits1 s hs s.length 0 (Nat.zero_add _))
/-! ### powers -/
theorem pow_small {b : Nat} (hb : b < 256) (n : Nat) : (nat (b ^ n)).length ≤ n + 1 := by
  rcases Nat.eq_zero_or_pos n with h | h
  · subst h; rw [Nat.pow_zero, nat_one]; simp
  · exact Nat.le_trans (nat_length_le (Nat.pow_lt_pow_left hb (by omega))) (by omega)
theorem powR_small {b n : Nat} (hb : 2 ≤ b) (hb2 : b < 256) (hn : n ≤ 1000) : powR b (n : Int) = (nat (b ^ n), 0) := by
  unfold powR
  rw [if_neg (by omega)]
  by_cases h : n = 0
  · subst h; rw [if_pos (by rfl), Nat.pow_zero, nat_one]
  · have := pow_small hb2 n
    rw [if_neg (by omega), if_neg (by omega), powV, Int.toNat_natCast, if_neg (by omega)]
theorem xPower {b n : Nat} (hb : 2 ≤ b) (hb2 : b < 256) (hn : n ≤ 1000) : numtext_power (b : Int) (n : Int) = some (nat (b ^ n)) := by
  have hl : (nat b).length ≤ 1 := nat_length_le (by omega)
  rw [numtext_power_eq, xOf _ (by omega), Option.bind_some, xPow _ _ (by omega) (by omega), Option.bind_some, val_nat, powR_small hb hb2 hn]; rfl
/-! ### where a number ends -/
def endsN (d : Nat) : Nat × Bool := if 2 ^ ordB 2 d * 5 ^ ordB 5 d = d then (max (ordB 2 d) (ordB 5 d), true) else (0, false)
end Go.Proofs.YtenebjaipfcflaaDoor.D

/- Numbers in digits, and as texts: plain Lean; the program's and the reference's. -/
set_option linter.unusedVariables false
set_option linter.unusedSimpArgs false
namespace Go.Proofs.YtenebjaipfcflaaDoor.D
open Go Go.Proofs.YtenebjaipfcflaaDoor.K
open Go.Proofs.YtenebjaipfcflaaDoor.P (nat val divmod small val_nat nat_zero nat_eq_nil nat_val_length nat_length_le len_mono val_lt nat_inj sgnv powR powV nat_one wS wA wD nat_ten_len inC ten ten_len decT decT_len decT_ne decT_good decT_dv dv good dig dig_le dv_nil dv_snoc dv_append dv_cons dv_lt)
def ptN (n : Nat) (s : List UInt8) : List UInt8 :=
  if n = 0 then s else (List.replicate (n + 1 - s.length) 48 ++ s).take ((List.replicate (n + 1 - s.length) 48 ++ s).length - n) ++ [46] ++ (List.replicate (n + 1 - s.length) 48 ++ s).drop ((List.replicate (n + 1 - s.length) 48 ++ s).length - n)
/-! ### texts of numbers -/
def textF (s : Bool) (n d : Nat) : List UInt8 :=
  cond s [45] [] ++ cond ((endsN d).2 && decide ((endsN d).1 ≤ 20)) (ptN (endsN d).1 (decT (n * 10 ^ (endsN d).1 / d))) (decT n ++ [47] ++ decT d)
end Go.Proofs.YtenebjaipfcflaaDoor.D

/- Texts as numbers: plain Lean; the program's and the reference's; the two laws. -/
set_option linter.unusedVariables false
set_option linter.unusedSimpArgs false
namespace Go.Proofs.YtenebjaipfcflaaDoor.D
open Go Go.Proofs.YtenebjaipfcflaaDoor.K
open Go.Proofs.YtenebjaipfcflaaDoor.P (nat val divmod small val_nat nat_zero nat_eq_nil nat_val_length nat_length_le len_mono val_lt nat_inj sgnv powR powV nat_one wS wA wD nat_ten_len inC ten ten_len decT decT_len decT_ne decT_good decT_dv dv_lt dv good dig dig_le dv_nil dv_snoc dv_append dv_cons)
def z0 : Rt := (false, [], [])
theorem pt_cut_len {c : UInt8} {s : List UInt8} {k : Nat} (h : pos c s = some k) : (s.take k ++ s.drop (k + 1)).length + 1 = s.length := by
  have := pos_lt h
  simp; omega
def decV (s : List UInt8) : Rt × Int :=
  cond (!dg (cutV 46 s).1 || ((cutV 46 s).2.2 && !dg (cutV 46 s).2.1)) (z0, 10) (cond (decide (s.length > 400)) (z0, 9) (make (false, nat (dv ((cutV 46 s).1 ++ (cutV 46 s).2.1))) (false, nat (10 ^ (cutV 46 s).2.1.length))))
theorem cut_len (c : UInt8) (s : List UInt8) : (cutV c s).1.length + (cutV c s).2.1.length ≤ s.length := by
  unfold cutV
  cases h : pos c s with
  | none => simp
  | some k => have := pt_cut_len h; simp only [List.length_append] at this; simp only; omega
theorem cut_no {c : UInt8} {s : List UInt8} (h : (cutV c s).2.2 = false) : (cutV c s).2.1 = [] := by
  unfold cutV at h ⊢
  cases hp : pos c s with
  | none => rfl
  | some k => rw [hp] at h; cases h
theorem good_append (a b : List UInt8) : good (a ++ b) = (good a && good b) := by unfold good; rw [List.all_append]
theorem parse_good {s : List UInt8} (hg : good s = true) (h0 : s ≠ []) (hl : s.length ≤ 400) : parseV s = (nat (dv s), 0) := by rw [parseV, if_neg (by simp [h0, hg]), if_neg (by omega)]
theorem mkF (n : Nat) : mkW false n = (false, nat n) := rfl
theorem xDec (s : List UInt8) (hs : s.length ≤ 100000) : numtext_Decimal s = some (decV s) := by
  have hc := cut_len 46 s
  have hno := @cut_no 46 s
  have key : ∀ (a b : List UInt8) (pt : Bool), a.length + b.length ≤ s.length → (pt = false → b = []) → dg a = true → (pt = true → dg b = true) → numtext_Decimal_1 s a b false z0 = some (cond (decide (s.length > 400)) (z0, 9) (make (false, nat (dv (a ++ b))) (false, nat (10 ^ b.length)))) := by
    intro a b pt hab hb ha hb2
    rw [numtext_Decimal_1_eq, cond_false]
    by_cases hl : s.length > 400
    · rw [cT (decide_eq_true (by omega)), decide_eq_true hl]; rfl
    · have ha' : good a = true ∧ a ≠ [] := by simpa [dg] using ha
      have hgb : good b = true := by
        cases pt with
        | false => rw [hb rfl]; rfl
        | true => have : good b = true ∧ b ≠ [] := by simpa [dg] using hb2 rfl
                  exact this.1
      have hgab : good (a ++ b) = true := by rw [good_append, ha'.1, hgb]; rfl
      have hp : parseV (a ++ b) = (nat (dv (a ++ b)), 0) := parse_good hgab (by simp [ha'.2]) (by simp; omega)
      have hdl := nat_ten_len (dv_lt (a ++ b) hgab)
      have hpl := pow_small (b := 10) (by omega) b.length
      simp only [List.length_append] at hdl
      rw [cF (decide_eq_false (by omega)), cT (Nat.ble_eq_true_of_le (by omega)), xParse _ (by simp; omega), Option.bind_some, hp]
      simp only
      rw [cF (by rfl), xWMake _ _ (by omega), Option.bind_some, show numtext_power 10 (b.length : Int) = _ from xPower (b := 10) (by omega) (by omega) (by omega), Option.bind_some, xWMake _ _ (by omega), Option.bind_some, mkF, mkF, val_nat, val_nat, xMake _ _ (by simp only; omega) (by simp only; omega), Option.bind_some, decide_eq_false hl, cond_false]
  rw [numtext_Decimal_eq, xCut 46 s (by omega), Option.bind_some, xDigits _ (by omega), Option.bind_some, decV]
  generalize hcv : cutV 46 s = cv at hc hno
  obtain ⟨a, b, pt⟩ := cv
  simp only at hc hno ⊢
  cases ha : dg a with
  | false => rw [cT (by rfl), numtext_Decimal_1_eq]; rfl
  | true =>
    rw [cF (by rfl)]
    cases pt with
    | false =>
      rw [cond_false]
      exact key a b false hc (fun _ => hno rfl) ha (fun h => by cases h)
    | true =>
      rw [cond_true, xDigits _ (by omega), Option.bind_some]
      cases hb : dg b with
      | false => rw [numtext_Decimal_1_eq]; rfl
      | true => exact key a b true hc (fun h => by cases h) ha (fun _ => hb)
/-! ### the laws -/
/-! ### a text is read as its number -/
theorem pos_none {c : UInt8} : ∀ {s : List UInt8}, (∀ b ∈ s, b ≠ c) → pos c s = none
  | [], _ => rfl
  | b :: s, h => by
    simp only [pos]
    rw [if_neg (h b (by simp)), pos_none fun x hx => h x (by simp [hx])]; rfl
theorem cut_none {c : UInt8} {s : List UInt8} (h : ∀ x ∈ s, x ≠ c) : cutV c s = (s, [], false) := by
  unfold cutV
  rw [pos_none h]
end Go.Proofs.YtenebjaipfcflaaDoor.D
namespace Go.Proofs.YtenebjaipfcflaaDoor.K
open Go
end Go.Proofs.YtenebjaipfcflaaDoor.K

/- Values: plain Lean; the program's and the reference's. -/
set_option linter.unusedVariables false
set_option linter.unusedSimpArgs false
namespace Go.Proofs.YtenebjaipfcflaaDoor.D
open Go Go.Proofs.YtenebjaipfcflaaDoor.K
open Go.Proofs.YtenebjaipfcflaaDoor.P (nat val val_nat nat_zero nat_eq_nil nat_inj nat_one wS inC dv good dig dig_le decT decT_good decT_ne)
abbrev Vl := Int × (Bool × List UInt8 × List UInt8) × List UInt8 × Bool × Int
def blank : Vl := (0, (false, [], []), [], false, 0)
/-! ### which texts can be values -/
/-! ### names of faults -/
def namesL : List (List UInt8) := [[], [35, 68, 73, 86, 47, 48, 33], [35, 86, 65, 76, 85, 69, 33], [35, 82, 69, 70, 33], [35, 78, 65, 77, 69, 63], [35, 78, 85, 77, 33], [35, 78, 47, 65], [35, 67, 73, 82, 67, 33]]
def isF (n : Int) : Bool := decide (1 ≤ n) && decide (n ≤ 7)
def nameV (n : Int) : List UInt8 := cond (isF n) (namesL.getD n.toNat []) []
theorem xName (n : Int) : value_Name n = some (nameV n) := by
  rw [value_Name_eq, value_Name_1_eq, nameV]
  by_cases h0 : n < 0
  · rw [cT (decide_eq_true h0), value_Name_2_eq, show isF n = false by unfold isF; simp; omega]; rfl
  · rw [cF (decide_eq_false h0), value_Name_2_eq]
    by_cases h8 : n ≥ 8
    · rw [cT (decide_eq_true h8), show isF n = false by unfold isF; simp; omega]; rfl
    · rw [cF (decide_eq_false h8), cT (by simp; omega)]
      by_cases hz : n = 0
      · subst hz; rfl
      · rw [show isF n = true by unfold isF; simp; omega]; rfl
/-! ### values of their kinds -/
/-! ### which values can be -/
/-! ### how they are seen -/
end Go.Proofs.YtenebjaipfcflaaDoor.D

/- Tokens: plain Lean; the program's. -/
set_option linter.unusedVariables false
set_option linter.unusedSimpArgs false
namespace Go.Proofs.YtenebjaipfcflaaDoor.D
open Go Go.Proofs.YtenebjaipfcflaaDoor.K
open Go.Proofs.YtenebjaipfcflaaDoor.P (wS dig)
open Go.Proofs.YtenebjaipfcflaaDoor.Q (txt txt_none txt_more txt_end posQ posQ_lt plainQ textV lexQ)
abbrev Tk := Int × List UInt8 × Int × Bool × List UInt8 × List UInt8
def zT : Tk := (0, [], 0, false, [], [])
/-! ### how many at the head are such -/
def leadD (p : UInt8 → Bool) (l : List UInt8) : Nat := (l.takeWhile p).length
theorem leadD_le (p : UInt8 → Bool) (s : List UInt8) : leadD p s ≤ s.length := by
  unfold leadD
  induction s with
  | nil => simp
  | cons b s ih => simp only [List.takeWhile_cons]; split <;> simp <;> omega
theorem leadD_drop {p : UInt8 → Bool} {s : List UInt8} {i : Nat} (h : i < s.length) : leadD p (s.drop i) = if p (s.getD i 0) = true then leadD p (s.drop (i + 1)) + 1 else 0 := by
  unfold leadD
  rw [getD_drop h, List.takeWhile_cons]
  split <;> simp
theorem leadD_end {p : UInt8 → Bool} {s : List UInt8} {i : Nat} (h : s.length ≤ i) : leadD p (s.drop i) = 0 := by rw [List.drop_of_length_le h]; rfl
theorem leadD_at (p : UInt8 → Bool) (s : List UInt8) (i : Nat) (h : i ≤ s.length) : i + leadD p (s.drop i) ≤ s.length := by
  have := leadD_le p (s.drop i)
  simp at this; omega
theorem loop_lead {α : Type} (s : List UInt8) (a : Nat) (p : UInt8 → Bool) (F K : Nat → Option α) (hF : ∀ i, a + i < s.length → F i = cond (p (s.getD (a + i) 0)) (F (i + 1)) (K i)) (hE : ∀ i, a + i = s.length → F i = K i) :
    ∀ m i, a + i + m = s.length → F i = K (i + leadD p (s.drop (a + i)))
  | 0, i, h => by rw [hE i (by omega), leadD_end (by omega)]; rfl
  | m + 1, i, h => by
    rw [hF i (by omega), leadD_drop (by omega)]
    cases hp : p (s.getD (a + i) 0) with
    | false => rfl
    | true => rw [cond_true, loop_lead s a p F K hF hE m (i + 1) (by omega), if_pos rfl]; congr 1; rw [show a + i + 1 = a + (i + 1) from rfl]; omega
theorem wA {a i : Nat} (h : a + i ≤ 9223372036854775807) : IntKind.i64.wrap ((a : Int) + (i : Int)) = ((a + i : Nat) : Int) := wrap64 (by omega) (by omega)
/-! ### bytes -/
def spc (b : UInt8) : Bool := decide (b = 32)
def ltr (b : UInt8) : Bool := (decide (65 ≤ b.toNat) && decide (b.toNat ≤ 90)) || (decide (97 ≤ b.toNat) && decide (b.toNat ≤ 122))
def wd (b : UInt8) : Bool := ltr b || (dig b || (decide (b = 36) || decide (b = 95)))
theorem geD (b : UInt8) (n : Nat) : decide ((b.toNat : Int) ≥ (n : Int)) = decide (n ≤ b.toNat) := decide_eq_decide.2 (by omega)
theorem leD (b : UInt8) (n : Nat) : decide ((b.toNat : Int) ≤ (n : Int)) = decide (b.toNat ≤ n) := decide_eq_decide.2 (by omega)
theorem eqD (b c : UInt8) : decide ((b.toNat : Int) = (c.toNat : Int)) = decide (b = c) := decide_eq_decide.2 ⟨fun h => UInt8.toNat_inj.1 (by omega), fun h => by rw [h]⟩
theorem xLdig (b : UInt8) : lex_digit (b.toNat : Int) = some (dig b) := by
  rw [lex_digit_eq, dig, show decide ((b.toNat : Int) ≥ 48) = _ from geD b 48, show decide ((b.toNat : Int) ≤ 57) = _ from leD b 57]
  cases decide (48 ≤ b.toNat) <;> rfl
theorem xWd (b : UInt8) : lex_letter (b.toNat : Int) = some (wd b) := by
  rw [lex_letter_eq, xLdig, Option.bind_some, wd, ltr, show decide ((b.toNat : Int) ≥ 65) = _ from geD b 65, show decide ((b.toNat : Int) ≤ 90) = _ from leD b 90, show decide ((b.toNat : Int) ≥ 97) = _ from geD b 97, show decide ((b.toNat : Int) ≤ 122) = _ from leD b 122, show decide ((b.toNat : Int) = 36) = _ from eqD b 36, show decide ((b.toNat : Int) = 95) = _ from eqD b 95]
  cases decide (65 ≤ b.toNat) <;> cases decide (b.toNat ≤ 90) <;> cases decide (97 ≤ b.toNat) <;> cases decide (b.toNat ≤ 122) <;> cases dig b <;> cases decide (b = 36) <;> rfl
/-! ### what stands at a place -/
def sub (s : List UInt8) (p n : Nat) : List UInt8 := (s.take (p + n)).drop p
def numK (s : List UInt8) (p : Nat) : Nat := leadD dig (s.drop (p + leadD dig (s.drop p) + 1))
def numL (s : List UInt8) (p : Nat) : Nat :=
  cond (decide (0 < numK s p) && decide (s.getD (p + leadD dig (s.drop p)) 0 = 46)) (leadD dig (s.drop p) + (1 + numK s p)) (leadD dig (s.drop p))
theorem numL_le (s : List UInt8) (p : Nat) (h : p ≤ s.length) : p + numL s p ≤ s.length := by
  have h1 := leadD_at dig s p h
  unfold numL numK
  by_cases h2 : p + leadD dig (s.drop p) + 1 ≤ s.length
  · have h3 := leadD_at dig s _ h2
    cases (decide (0 < leadD dig (s.drop (p + leadD dig (s.drop p) + 1))) && decide (s.getD (p + leadD dig (s.drop p)) 0 = 46))
    · exact h1
    · rw [cond_true]; omega
  · rw [leadD_end (by omega)]; exact h1
theorem xNum (s : List UInt8) (p : Nat) (hp : p < s.length) (hs : s.length ≤ 100000) : lex_number s (p : Int) = some (((1 : Int), sub s p (numL s p), (p : Int), (decV (sub s p (numL s p))).1), (numL s p : Int), (decV (sub s p (numL s p))).2) := by
  have hn := leadD_at dig s p (by omega)
  have l8 : ∀ n : Nat, p + n ≤ s.length → lex_number_8 s p n zT = some (((1 : Int), sub s p n, (p : Int), (decV (sub s p n)).1), (n : Int), (decV (sub s p n)).2) := by
    intro n h
    have hl : (sub s p n).length ≤ 100000 := by unfold sub; simp; omega
    rw [lex_number_8_eq, wA (by omega), cT (by simp; omega), Int.toNat_natCast, Int.toNat_natCast]
    show (numtext_Decimal (sub s p n)).bind _ = _
    rw [xDec _ hl, Option.bind_some, cT (by simp; omega)]; rfl
  have l5 : ∀ n : Nat, p + n ≤ s.length → ∀ k : Nat, p + n + k ≤ s.length ∨ k = 0 → (0 < k → p + n < s.length) → lex_number_6 s ((p + n + 1 : Nat) : Int) k false zT s p n = lex_number_7 s p n k (decide (0 < k) && decide (s.getD (p + n) 0 = 46)) zT := by
    intro n h k hk hk2
    rw [lex_number_6_eq, cond_false, wA (by omega)]
    by_cases h0 : 0 < k
    · rw [cT (decide_eq_true (by omega)), cT (ix (hk2 h0)), Int.toNat_natCast, show decide (((s.getD (p + n) 0).toNat : Int) = 46) = _ from eqD _ 46, decide_eq_true h0, Bool.true_and]
    · rw [cF (decide_eq_false (by omega)), decide_eq_false h0, Bool.false_and]
  have h1 := loop_lead s p dig (fun i => lex_number_2 s p i zT s p) (fun i => lex_number_4 s ((p + i + 1 : Nat) : Int) zT s p i)
    (fun i hi => by
      show lex_number_2 s p i zT s p = _
      rw [lex_number_2_eq, wA (by omega), cT (decide_eq_true (by omega)), cT (ix hi), Int.toNat_natCast, xLdig, Option.bind_some, lex_number_3_eq, wS (by omega), wA (by omega), show IntKind.i64.wrap (((p + i : Nat) : Int) + 1) = ((p + i + 1 : Nat) : Int) from wS (by omega)])
    (fun i hi => by
      show lex_number_2 s p i zT s p = _
      rw [lex_number_2_eq, wA (by omega), cF (decide_eq_false (by omega)), lex_number_3_eq, cond_false, wA (by omega), show IntKind.i64.wrap (((p + i : Nat) : Int) + 1) = ((p + i + 1 : Nat) : Int) from wS (by omega)])
    (s.length - p) 0 (by omega)
  simp only [Nat.zero_add, Nat.add_zero] at h1
  rw [lex_number_eq, lex_number_1_eq]
  refine Eq.trans h1 ?_
  rw [lex_number_4_eq]
  have h2 : lex_number_5 s ((p + leadD dig (s.drop p) + 1 : Nat) : Int) (0 : Nat) zT s p (leadD dig (s.drop p)) = lex_number_6 s ((p + leadD dig (s.drop p) + 1 : Nat) : Int) (numK s p) false zT s p (leadD dig (s.drop p)) := by
    unfold numK
    generalize leadD dig (s.drop p) = n at hn
    by_cases hb : p + n + 1 ≤ s.length
    · have := loop_lead s (p + n + 1) dig (fun i => lex_number_5 s ((p + n + 1 : Nat) : Int) i zT s p n) (fun i => lex_number_6 s ((p + n + 1 : Nat) : Int) i false zT s p n)
        (fun i hi => by
          show lex_number_5 s ((p + n + 1 : Nat) : Int) i zT s p n = _
          rw [lex_number_5_eq, wA (by omega), cT (decide_eq_true (by omega)), cT (ix hi), Int.toNat_natCast, xLdig, Option.bind_some]
          cases dig (s.getD (p + n + 1 + i) 0) with
          | false => rfl
          | true => rw [lex_number_6_eq, cond_true, wS (by omega)]; rfl)
        (fun i hi => by
          show lex_number_5 s ((p + n + 1 : Nat) : Int) i zT s p n = _
          rw [lex_number_5_eq, wA (by omega), cF (decide_eq_false (by omega))])
        (s.length - (p + n + 1)) 0 (by omega)
      simpa only [Nat.zero_add, Nat.add_zero] using this
    · rw [leadD_end (by omega), lex_number_5_eq, wA (by omega), cF (decide_eq_false (by omega))]
  refine Eq.trans h2 ?_
  have hk : p + leadD dig (s.drop p) + numK s p ≤ s.length ∨ numK s p = 0 := by
    unfold numK
    by_cases hb : p + leadD dig (s.drop p) + 1 ≤ s.length
    · have := leadD_at dig s _ hb; omega
    · right; exact leadD_end (by omega)
  have hk2 : 0 < numK s p → p + leadD dig (s.drop p) < s.length := by
    unfold numK
    intro h
    rcases Nat.lt_or_ge (p + leadD dig (s.drop p)) s.length with h' | h'
    · exact h'
    · rw [leadD_end (by omega)] at h; omega
  rw [l5 _ hn _ hk hk2, lex_number_7_eq]
  have hle := numL_le s p (by omega)
  unfold numL at hle ⊢
  cases hb : (decide (0 < numK s p) && decide (s.getD (p + leadD dig (s.drop p)) 0 = 46)) with
  | false => rw [hb, cond_false] at hle; rw [cond_false, cond_false]; exact l8 _ hle
  | true =>
    rw [hb, cond_true] at hle
    rw [cond_true, cond_true, show IntKind.i64.wrap (1 + (numK s p : Int)) = ((1 + numK s p : Nat) : Int) from wrap64 (by omega) (by omega), wA (by omega)]
    exact l8 _ hle
/-! ### faults' names -/
def pre (t n : List UInt8) : Bool := decide (t.take n.length = n)
def faultF (t : List UInt8) : Nat → Nat → List UInt8 → List UInt8
  | 0, _, best => best
  | m + 1, i, best => faultF t m (i + 1) (cond (decide (best.length < (nameV i).length) && pre t (nameV i)) (nameV i) best)
def faultL (s : List UInt8) (p : Nat) : List UInt8 := faultF (s.drop p) 7 1 []
theorem hasPreL (t n : List UInt8) : strings_HasPrefix t n = some (pre t n) := by
  rw [strings_HasPrefix_eq, internal_stringslite_HasPrefix_eq]
  by_cases h : n.length ≤ t.length
  · rw [cT (decide_eq_true (by omega)), cT (by simp; omega), pre]
    simp [Int.toNat_natCast]
  · rw [cF (decide_eq_false (by omega)), pre, decide_eq_false]
    · rfl
    · intro e
      have := congrArg List.length e
      simp at this; omega
theorem xFault1 (s : List UInt8) (p : Nat) (hp : p ≤ s.length) (hs : s.length ≤ 100000) : ∀ (m i : Nat) (best : List UInt8), i + m = 8 → lex_fault_1 s p best i zT = some (cond (decide (faultF (s.drop p) m i best = [])) (zT, 0, 10) ((10, faultF (s.drop p) m i best, (p : Int), false, [], []), ((faultF (s.drop p) m i best).length : Int), 0))
  | 0, i, best, h => by
    rw [lex_fault_1_eq, cF (decide_eq_false (by omega)), faultF]
    cases decide (best = []) <;> rfl
  | m + 1, i, best, h => by
    have next : ∀ b : List UInt8, lex_fault_3 s p b i zT = some (cond (decide (faultF (s.drop p) m (i + 1) b = [])) (zT, 0, 10) ((10, faultF (s.drop p) m (i + 1) b, (p : Int), false, [], []), ((faultF (s.drop p) m (i + 1) b).length : Int), 0)) := by
      intro b
      rw [lex_fault_3_eq, wS (by omega)]
      exact xFault1 s p hp hs m (i + 1) b (by omega)
    rw [lex_fault_1_eq, cT (decide_eq_true (by omega)), xName, Option.bind_some, faultF, lex_fault_2_eq, cond_false]
    by_cases h1 : best.length < (nameV i).length
    · rw [cT (decide_eq_true (by omega)), cT (by simp; omega), Int.toNat_natCast, hasPreL, Option.bind_some, lex_fault_2_eq, decide_eq_true h1, Bool.true_and]
      cases pre (s.drop p) (nameV i) with
      | true => exact next _
      | false => exact next _
    · rw [cF (decide_eq_false (by omega)), decide_eq_false h1, Bool.false_and]
      exact next _
theorem xFault (s : List UInt8) (p : Nat) (hp : p ≤ s.length) (hs : s.length ≤ 100000) : lex_fault s p = some (cond (decide (faultL s p = [])) (zT, 0, 10) ((10, faultL s p, (p : Int), false, [], []), ((faultL s p).length : Int), 0)) := by
  rw [lex_fault_eq]
  exact xFault1 s p hp hs 7 1 [] rfl
theorem pre_le {t n : List UInt8} (h : pre t n = true) : n.length ≤ t.length := by
  have := congrArg List.length (of_decide_eq_true h)
  simp at this; omega
theorem faultF_le (t : List UInt8) : ∀ (m i : Nat) (b : List UInt8), b.length ≤ t.length → (faultF t m i b).length ≤ t.length
  | 0, _, b, h => h
  | m + 1, i, b, h => by
    rw [faultF]
    refine faultF_le t m _ _ ?_
    cases hc : (decide (b.length < (nameV i).length) && pre t (nameV i)) with
    | false => exact h
    | true => rw [Bool.and_eq_true] at hc; exact pre_le hc.2
/-! ### signs -/
def one (b : UInt8) : Int :=
  cond (decide (b = 40)) 5 (cond (decide (b = 41)) 6 (cond (decide (b = 44)) 7 (cond (decide (b = 58)) 8 (cond (decide (b = 33)) 9
    (cond (decide (b = 43) || (decide (b = 45) || (decide (b = 42) || (decide (b = 47) || (decide (b = 94) || (decide (b = 38) || (decide (b = 61) || (decide (b = 60) || (decide (b = 62) || decide (b = 37)))))))))) 4 0)))))
def two (t : List UInt8) : Bool := decide (t.take 2 = [60, 62]) || (decide (t.take 2 = [60, 61]) || decide (t.take 2 = [62, 61]))
def signV (t : List UInt8) : Int × Int := cond (two t) (4, 2) (cond (decide (one (t.getD 0 0) = 0)) (0, 0) (one (t.getD 0 0), 1))
theorem xLSign (b : UInt8) (t : List UInt8) : lex_sign (b :: t) = some (signV (b :: t)) := by
  have h1 : lex_sign_1 (b :: t) = some (cond (decide (t.head? = some 61)) (4, 2) (4, 1)) := by
    rw [lex_sign_1_eq]
    cases t with
    | nil => rw [cF (decide_eq_false (by simp)), lex_sign_3_eq]; rfl
    | cons c t =>
      rw [cT (decide_eq_true (by simp; omega)), cT (by simp; omega), lex_sign_3_eq]
      show cond (decide ((c.toNat : Int) = 61)) _ _ = _
      rw [show decide ((c.toNat : Int) = 61) = _ from eqD c 61]
      simp only [List.head?_cons, Option.some.injEq]
      cases decide (c = 61) <;> rfl
  have h2 : ∀ x, lex_sign_2 x = some (cond x (4, 1) (0, 0)) := by
    intro x
    rw [lex_sign_2_eq]; cases x <;> rfl
  have h3 : strings_HasPrefix (b :: t) [60, 62] = some (decide ((b :: t).take 2 = [60, 62])) := by rw [hasPreL]; rfl
  have e : ∀ c : UInt8, decide ((((b :: t).getD 0 0).toNat : Int) = (c.toNat : Int)) = decide (b = c) := fun c => eqD b c
  rw [lex_sign_eq, cT (by simp), h1, h3, Option.bind_some, h2, h2, show decide ((((b :: t).getD 0 0).toNat : Int) = 40) = _ from e 40, show decide ((((b :: t).getD 0 0).toNat : Int) = 41) = _ from e 41, show decide ((((b :: t).getD 0 0).toNat : Int) = 44) = _ from e 44, show decide ((((b :: t).getD 0 0).toNat : Int) = 58) = _ from e 58, show decide ((((b :: t).getD 0 0).toNat : Int) = 33) = _ from e 33, show decide ((((b :: t).getD 0 0).toNat : Int) = 60) = _ from e 60, show decide ((((b :: t).getD 0 0).toNat : Int) = 62) = _ from e 62, show decide ((((b :: t).getD 0 0).toNat : Int) = 43) = _ from e 43, show decide ((((b :: t).getD 0 0).toNat : Int) = 45) = _ from e 45, show decide ((((b :: t).getD 0 0).toNat : Int) = 42) = _ from e 42, show decide ((((b :: t).getD 0 0).toNat : Int) = 47) = _ from e 47, show decide ((((b :: t).getD 0 0).toNat : Int) = 94) = _ from e 94, show decide ((((b :: t).getD 0 0).toNat : Int) = 38) = _ from e 38, show decide ((((b :: t).getD 0 0).toNat : Int) = 61) = _ from e 61, show decide ((((b :: t).getD 0 0).toNat : Int) = 37) = _ from e 37]
  have ht : ∀ x y : UInt8, decide ((b :: t).take 2 = [x, y]) = (decide (b = x) && decide (t.head? = some y)) := by
    intro x y
    cases t with
    | nil => simp
    | cons c t => simp [Bool.decide_and]
  unfold signV
  rw [show (b :: t).getD 0 0 = b from rfl]
  unfold two one
  rw [ht, ht, ht]
  show _ = some (cond _ _ (cond (decide (cond (decide (b = 40)) _ _ = (0 : Int))) _ _))
  by_cases g1 : b = 60
  · subst g1
    by_cases g2 : t.head? = some 62
    · rw [g2]; rfl
    · rw [decide_eq_false g2]
      by_cases g3 : t.head? = some 61
      · rw [g3]; rfl
      · rw [decide_eq_false g3]; rfl
  · by_cases g4 : b = 62
    · subst g4
      by_cases g3 : t.head? = some 61
      · rw [g3]; rfl
      · rw [decide_eq_false g3]; rfl
    · rw [decide_eq_false g1, decide_eq_false g4]
      simp only [cond_false, Bool.false_and, Bool.false_or]
      cases decide (b = 40) <;> cases decide (b = 41) <;> cases decide (b = 44) <;> cases decide (b = 58) <;> cases decide (b = 33) <;> first | rfl | skip
      cases decide (b = 43) <;> cases decide (b = 45) <;> cases decide (b = 42) <;> cases decide (b = 47) <;> first | rfl | skip
      cases decide (b = 94) <;> cases decide (b = 38) <;> cases decide (b = 61) <;> cases decide (b = 37) <;> rfl
theorem sign_le (t : List UInt8) : (signV t).2 = 0 ∨ (signV t).2 = 1 ∨ ((signV t).2 = 2 ∧ two t = true) := by
  unfold signV
  cases two t with
  | true => exact .inr (.inr ⟨rfl, rfl⟩)
  | false =>
    rw [cond_false]
    cases decide (one (t.getD 0 0) = 0)
    · exact .inr (.inl rfl)
    · exact .inl rfl
theorem two_len {t : List UInt8} (h : two t = true) : 2 ≤ t.length := by
  unfold two at h
  simp only [Bool.or_eq_true, decide_eq_true_eq] at h
  rcases h with h | h | h <;> · have := congrArg List.length h; simp at this; omega
/-! ### the one at a place -/
def fin (p : Nat) (t : Tk) (n : Nat) (e : Int) : Tk × Int × Int := cond (decide (e = 0)) (t, ((p + n : Nat) : Int), 0) (zT, (p : Int), e)
def tokAt (s : List UInt8) (p : Nat) : Tk × Int × Int :=
  cond (dig (s.getD p 0)) (fin p (1, sub s p (numL s p), (p : Int), (decV (sub s p (numL s p))).1) (numL s p) (decV (sub s p (numL s p))).2)
    (cond (decide (s.getD p 0 = 34)) (match txt (s.drop (p + 1)) with
      | none => (zT, (p : Int), 10)
      | some x => cond (plainQ x.1) ((2, x.1, (p : Int), false, [], []), ((p + (x.2 + 1) : Nat) : Int), 0) (zT, (p : Int), 10))
      (cond (decide (s.getD p 0 = 35)) (cond (decide (faultL s p = [])) (zT, (p : Int), 10) ((10, faultL s p, (p : Int), false, [], []), ((p + (faultL s p).length : Nat) : Int), 0))
        (cond (wd (s.getD p 0)) ((3, sub s p (leadD wd (s.drop p)), (p : Int), false, [], []), ((p + leadD wd (s.drop p) : Nat) : Int), 0)
          (cond (decide ((signV (s.drop p)).2 = 0)) (zT, (p : Int), 10) (((signV (s.drop p)).1, sub s p (signV (s.drop p)).2.toNat, (p : Int), false, [], []), ((p + (signV (s.drop p)).2.toNat : Nat) : Int), 0)))))
def stand (s : List UInt8) (p : Nat) : Tk × Int × Int := cond (decide (p = s.length)) ((0, [], (p : Int), false, [], []), (p : Int), 0) (tokAt s p)
def skip (s : List UInt8) (a : Nat) : Nat := a + leadD spc (s.drop a)
def nextV (s : List UInt8) (a : Int) : Tk × Int × Int := cond (decide (a < 0) || decide (a > (s.length : Int))) (zT, 0, 2) (stand s (skip s a.toNat))
theorem xNext6 (p : Nat) (n : Nat) (e : Int) (t : Tk) (h : p + n ≤ 1000000) : lex_Next_6 (p : Int) (n : Int) e zT t = some (fin p t n e) := by
  rw [lex_Next_6_eq, wA (by omega), fin]
  cases decide (e = 0) <;> rfl
theorem xTextQ (s : List UInt8) (p : Nat) (hp : p < s.length) (hs : s.length ≤ 100000) : lex_text s (p : Int) = some (textV s p) := by
  refine (top_call ..).trans ?_
  show lexQ (s, (p : Int)) = _
  unfold lexQ
  have h1 : Nat.ble s.length 1000000 = true := Nat.ble_eq_true_of_le (by omega)
  show cond (decide ((0 : Int) ≤ (p : Int)) && (decide ((p : Int) < (s.length : Int)) && Nat.ble s.length 1000000)) _ _ = _
  rw [h1, decide_eq_true (show (p : Int) < (s.length : Int) by omega), decide_eq_true (show (0 : Int) ≤ (p : Int) by omega)]
  rfl
theorem xStand (s : List UInt8) (p : Nat) (hp : p ≤ s.length) (hs : s.length ≤ 100000) (a i : Nat) (hai : a + i = p) (U : List UInt8) (b : Int) : lex_Next_5 U b i false zT zT s 0 a = some (stand s p) := by
  rw [lex_Next_5_eq, cond_false, wA (by omega), hai]
  unfold stand
  by_cases h0 : p = s.length
  · rw [cT (decide_eq_true (by omega)), decide_eq_true h0]; rfl
  rw [cF (decide_eq_false (by omega)), decide_eq_false h0, cond_false, cT (ix (by omega)), Int.toNat_natCast, xLdig, Option.bind_some, tokAt, show decide (((s.getD p 0).toNat : Int) = 34) = _ from eqD _ 34, show decide (((s.getD p 0).toNat : Int) = 35) = _ from eqD _ 35, xWd, Option.bind_some]
  have hnl := numL_le s p hp
  have hwl := leadD_at wd s p hp
  have hfl : (faultL s p).length ≤ (s.drop p).length := faultF_le _ 7 1 [] (Nat.zero_le _)
  rw [List.length_drop] at hfl
  cases dig (s.getD p 0) with
  | true => rw [cond_true, cond_true, xNum s p (by omega) hs, Option.bind_some]; exact xNext6 p _ _ _ (by omega)
  | false =>
    rw [cond_false, cond_false]
    cases decide (s.getD p 0 = 34) with
    | true =>
      rw [cond_true, cond_true, xTextQ s p (by omega) hs, Option.bind_some, textV]
      cases ht : txt (s.drop (p + 1)) with
      | none => exact xNext6 p 0 10 zT (by omega)
      | some x =>
        have hl := Q.txt_len _ _ (Nat.le_refl _) x.1 x.2 ht
        simp at hl
        dsimp only
        cases plainQ x.1 with
        | true => exact xNext6 p (x.2 + 1) 0 _ (by omega)
        | false => exact xNext6 p 0 10 zT (by omega)
    | false =>
      rw [cond_false, cond_false]
      cases decide (s.getD p 0 = 35) with
      | true =>
        rw [cond_true, cond_true, xFault s p hp hs, Option.bind_some]
        cases decide (faultL s p = []) with
        | true => exact xNext6 p 0 10 zT (by omega)
        | false => exact xNext6 p (faultL s p).length 0 _ (by omega)
      | false =>
        rw [cond_false, cond_false]
        cases wd (s.getD p 0) with
        | true =>
          rw [cond_true, cond_true, lex_Next_7_eq]
          have h1 := loop_lead s p wd (fun i => lex_Next_9 s p i zT zT s p 0) (fun i => lex_Next_10 s p i false zT zT s p 0)
            (fun i hi => by
              show lex_Next_9 s p i zT zT s p 0 = _
              rw [lex_Next_9_eq, wA (by omega), cT (decide_eq_true (by omega)), cT (ix hi), Int.toNat_natCast, xWd, Option.bind_some]
              cases wd (s.getD (p + i) 0) with
              | false => rfl
              | true => rw [lex_Next_10_eq, cond_true, wS (by omega)]; rfl)
            (fun i hi => by
              show lex_Next_9 s p i zT zT s p 0 = _
              rw [lex_Next_9_eq, wA (by omega), cF (decide_eq_false (by omega))])
            (s.length - p) 0 (by omega)
          simp only [Nat.zero_add, Nat.add_zero] at h1
          refine Eq.trans h1 ?_
          rw [lex_Next_10_eq, cond_false, wA (by omega), cT (by simp; omega), Int.toNat_natCast, Int.toNat_natCast]
          exact xNext6 p _ 0 _ (by omega)
        | false =>
          rw [cond_false, cond_false, cT (by simp; omega), getD_drop (show p < s.length by omega), xLSign, ← getD_drop (show p < s.length by omega), Option.bind_some]
          have hsl := sign_le (s.drop p)
          have htl : two (s.drop p) = true → p + 2 ≤ s.length := fun h => by have := two_len h; simp at this; omega
          generalize hq : signV (s.drop p) = q at hsl
          by_cases hz : q.2 = 0
          · rw [cT (decide_eq_true hz), decide_eq_true hz, lex_Next_8_eq, cT (by rfl)]; rfl
          · obtain ⟨m, hm⟩ : ∃ m : Nat, q.2 = (m : Int) := ⟨q.2.toNat, by omega⟩
            have hpm : p + m ≤ s.length := by
              rcases hsl with h | h | ⟨h, h2⟩
              · omega
              · omega
              · have := htl h2; omega
            rw [cF (decide_eq_false hz), decide_eq_false hz, cond_false, hm, wA (by omega), cT (by simp; omega), Int.toNat_natCast, Int.toNat_natCast]
            exact xNext6 p m 0 _ (by omega)
theorem xNext (s : List UInt8) (hs : s.length ≤ 100000) (a : Int) : lex_Next s a = some (nextV s a) := by
  have h1 : ∀ b, lex_Next_1 s a 0 b zT zT = cond b (some (zT, 0, 2)) (lex_Next_3 s a 0 zT zT s 0 a) := by
    intro b
    rw [lex_Next_1_eq, lex_Next_2_eq]; rfl
  rw [lex_Next_eq, nextV]
  by_cases h0 : a < 0
  · rw [cT (decide_eq_true h0), decide_eq_true h0]
    exact h1 true
  rw [cF (decide_eq_false h0), decide_eq_false h0, Bool.false_or]
  refine (h1 _).trans ?_
  by_cases h2 : a > (s.length : Int)
  · rw [decide_eq_true h2]; rfl
  rw [decide_eq_false h2, cond_false, cond_false]
  obtain ⟨n, rfl⟩ : ∃ n : Nat, a = (n : Int) := ⟨a.toNat, by omega⟩
  have h3 := loop_lead s n spc (fun i => lex_Next_3 s n i zT zT s 0 n) (fun i => lex_Next_5 s n i false zT zT s 0 n)
    (fun i hi => by
      show lex_Next_3 s n i zT zT s 0 n = _
      rw [lex_Next_3_eq, wA (by omega), cT (decide_eq_true (by omega)), cT (ix hi), Int.toNat_natCast, lex_Next_4_eq, cond_true, show decide (((s.getD (n + i) 0).toNat : Int) = 32) = _ from eqD _ 32]
      show lex_Next_5 s n i (spc (s.getD (n + i) 0)) zT zT s 0 n = _
      cases spc (s.getD (n + i) 0) with
      | false => rfl
      | true => rw [lex_Next_5_eq, cond_true, wS (by omega)]; rfl)
    (fun i hi => by
      show lex_Next_3 s n i zT zT s 0 n = _
      rw [lex_Next_3_eq, wA (by omega), cF (decide_eq_false (by omega))])
    (s.length - n) 0 (by omega)
  simp only [Nat.zero_add, Nat.add_zero] at h3
  refine Eq.trans h3 ?_
  have h4 := leadD_at spc s n (by omega)
  rw [Int.toNat_natCast]
  exact xStand s (skip s n) h4 hs n _ rfl _ _
end Go.Proofs.YtenebjaipfcflaaDoor.D

/- Tokens stand by themselves: what one is hangs on its own bytes alone, if a blank or the end is behind it; plain Lean. -/
set_option linter.unusedVariables false
set_option linter.unusedSimpArgs false
namespace Go.Proofs.YtenebjaipfcflaaDoor.D
open Go Go.Proofs.YtenebjaipfcflaaDoor.K
open Go.Proofs.YtenebjaipfcflaaDoor.P (wS dig)
open Go.Proofs.YtenebjaipfcflaaDoor.Q (txt txt_none txt_more txt_end posQ posQ_lt plainQ textV lexQ)
/-! ### quoted texts -/
theorem gtxt_nil : txt [] = none := txt_none rfl
theorem gtxt_two (t : List UInt8) : txt (34 :: 34 :: t) = (txt t).map fun x => (34 :: x.1, 2 + x.2) := by
  rw [txt_more (k := 0) rfl rfl]
  show (txt t).map _ = _
  cases txt t with
  | none => rfl
  | some x => simp
theorem gtxt_one {t : List UInt8} (h : t.head? ≠ some 34) : txt (34 :: t) = some ([], 1) := by
  rw [txt_end (k := 0) rfl]
  · rfl
  · cases t with
    | nil => rfl
    | cons c t =>
      show ((34 : UInt8) == c && true) = false
      rw [Bool.and_true]
      exact beq_eq_false_iff_ne.2 (fun e => h (by rw [e]; rfl))
theorem gtxt_other {c : UInt8} {t : List UInt8} (h : c ≠ 34) : txt (c :: t) = (txt t).map fun x => (c :: x.1, 1 + x.2) := by
  have hpos : posQ 34 (c :: t) = (posQ 34 t).map (· + 1) := by simp only [posQ]; rw [if_neg h]
  cases hp : posQ 34 t with
  | none =>
    rw [hp] at hpos
    rw [txt_none hpos, txt_none hp]; rfl
  | some k =>
    rw [hp] at hpos
    cases h2 : [34].isPrefixOf (t.drop (k + 1)) with
    | true =>
      rw [txt_more (k := k + 1) hpos h2, txt_more hp h2]
      show (txt (t.drop (k + 2))).map _ = _
      cases txt (t.drop (k + 2)) with
      | none => rfl
      | some x => simp; omega
    | false =>
      rw [txt_end (k := k + 1) hpos h2, txt_end hp h2]
      simp; omega
/-- A blank, or the end. -/
def Sep (u : List UInt8) : Prop := u = [] ∨ u.head? = some 32
theorem Sep.not {u : List UInt8} (h : Sep u) {c : UInt8} (hc : c ≠ 32) : u.head? ≠ some c := by
  rcases h with h | h
  · rw [h]; simp
  · rw [h]; intro e; exact hc (Option.some.inj e).symm
theorem Sep.off {u : List UInt8} (h : Sep u) {p : UInt8 → Bool} (hp : p 32 = false) : leadD p u = 0 := by
  rcases h with h | h
  · rw [h]; rfl
  · cases u with
    | nil => rfl
    | cons c u =>
      obtain rfl : c = 32 := Option.some.inj h
      unfold leadD
      rw [List.takeWhile_cons, if_neg (by rw [hp]; simp)]; rfl
theorem Sep.zero {u : List UInt8} (h : Sep u) : u.getD 0 0 = 32 ∨ u.getD 0 0 = 0 := by
  rcases h with h | h
  · rw [h]; exact .inr rfl
  · cases u with
    | nil => exact .inr rfl
    | cons c u => exact .inl (Option.some.inj h)
theorem txt_local : ∀ (n : Nat) (t x : List UInt8) (m : Nat), t.length ≤ n → txt t = some (x, m) → m ≤ t.length ∧ ∀ u, Sep u → txt (t.take m ++ u) = some (x, m)
  | _, [], x, m, _, h => by rw [gtxt_nil] at h; cases h
  | 0, c :: t, _, _, hn, _ => by simp at hn
  | n + 1, c :: t, x, m, hn, h => by
    simp only [List.length_cons] at hn
    by_cases hc : c = 34
    · subst hc
      cases t with
      | nil =>
        rw [gtxt_one (by simp)] at h
        cases h
        exact ⟨by simp, fun u hu => gtxt_one (hu.not (by decide))⟩
      | cons d t =>
        by_cases hd : d = 34
        · subst hd
          rw [gtxt_two] at h
          cases ht : txt t with
          | none => rw [ht] at h; cases h
          | some y =>
            rw [ht] at h
            cases h
            simp only [List.length_cons] at hn
            obtain ⟨h1, h2⟩ := txt_local n t y.1 y.2 (by omega) ht
            refine ⟨by simp; omega, fun u hu => ?_⟩
            rw [show 2 + y.2 = y.2 + 1 + 1 by omega, List.take_succ_cons, List.take_succ_cons, List.cons_append, List.cons_append, gtxt_two, h2 u hu]; simp; omega
        · have hne : (d :: t).head? ≠ some 34 := fun e => hd (Option.some.inj e)
          rw [gtxt_one hne] at h
          cases h
          exact ⟨by simp, fun u hu => gtxt_one (hu.not (by decide))⟩
    · rw [gtxt_other hc] at h
      cases ht : txt t with
      | none => rw [ht] at h; cases h
      | some y =>
        rw [ht] at h
        cases h
        obtain ⟨h1, h2⟩ := txt_local n t y.1 y.2 (by omega) ht
        refine ⟨by simp; omega, fun u hu => ?_⟩
        rw [show 1 + y.2 = y.2 + 1 by omega, List.take_succ_cons, List.cons_append, gtxt_other hc, h2 u hu]; simp; omega
/-! ### runs -/
theorem lead_local (p : UInt8 → Bool) (hp : p 32 = false) : ∀ (t : List UInt8) (n : Nat) (u : List UInt8), Sep u → n ≤ t.length → leadD p t ≤ n → leadD p (t.take n ++ u) = leadD p t
  | [], n, u, hu, hn, hl => by
    have h0 : n = 0 := by simpa using hn
    subst h0
    exact hu.off hp
  | a :: t, 0, u, hu, hn, hl => by
    rw [List.take_zero, List.nil_append, hu.off hp]; omega
  | a :: t, n + 1, u, hu, hn, hl => by
    simp only [List.length_cons] at hn
    rw [List.take_succ_cons, List.cons_append]
    unfold leadD at *
    rw [List.takeWhile_cons] at hl ⊢
    rw [List.takeWhile_cons]
    cases ha : p a with
    | false => rfl
    | true =>
      rw [ha] at hl
      simp only [if_true, List.length_cons] at hl ⊢
      have := lead_local p hp t n u hu (by omega) (by unfold leadD; omega)
      unfold leadD at this
      exact congrArg (· + 1) this
theorem getD_in {t u : List UInt8} {n i : Nat} (h : i < n) (hn : n ≤ t.length) : (t.take n ++ u).getD i 0 = t.getD i 0 := by
  rw [List.getD_eq_getElem?_getD, List.getD_eq_getElem?_getD, List.getElem?_append_left (by rw [List.length_take]; omega), List.getElem?_take_of_lt h]
theorem getD_at {t u : List UInt8} {n : Nat} (hn : n ≤ t.length) : (t.take n ++ u).getD n 0 = u.getD 0 0 := by
  rw [List.getD_eq_getElem?_getD, List.getD_eq_getElem?_getD, List.getElem?_append_right (by rw [List.length_take]; omega), List.length_take, Nat.min_eq_left hn, Nat.sub_self]
theorem drop_in {t u : List UInt8} {n i : Nat} (h : i ≤ n) (hn : n ≤ t.length) : (t.take n ++ u).drop i = (t.drop i).take (n - i) ++ u := by
  rw [List.drop_append_of_le_length (by rw [List.length_take]; omega), List.drop_take]
theorem take_in {t u : List UInt8} {n i : Nat} (h : i ≤ n) (hn : n ≤ t.length) : (t.take n ++ u).take i = t.take i := by
  rw [List.take_append_of_le_length (by rw [List.length_take]; omega), List.take_take, Nat.min_eq_left h]
/-! ### numbers -/
def nL (t : List UInt8) : Nat := cond (decide (0 < leadD dig (t.drop (leadD dig t + 1))) && decide (t.getD (leadD dig t) 0 = 46)) (leadD dig t + (1 + leadD dig (t.drop (leadD dig t + 1)))) (leadD dig t)
theorem numL_nL (s : List UInt8) (p : Nat) : numL s p = nL (s.drop p) := by
  unfold numL numK nL
  rw [List.drop_drop, show p + (leadD dig (s.drop p) + 1) = p + leadD dig (s.drop p) + 1 by omega, List.getD_eq_getElem?_getD, List.getD_eq_getElem?_getD, List.getElem?_drop]
theorem nL_le (t : List UInt8) : nL t ≤ t.length := by
  have := numL_le t 0 (Nat.zero_le _)
  rw [numL_nL, List.drop_zero] at this
  omega
theorem lead_nL (t : List UInt8) : leadD dig t ≤ nL t := by
  unfold nL
  cases decide (0 < leadD dig (t.drop (leadD dig t + 1))) && decide (t.getD (leadD dig t) 0 = 46)
  · exact Nat.le_refl _
  · rw [cond_true]; omega
theorem nL_local (t u : List UInt8) (hu : Sep u) : nL (t.take (nL t) ++ u) = nL t := by
  have hle := nL_le t
  have hl := lead_local dig (by rfl) t (nL t) u hu hle (lead_nL t)
  have key : nL (t.take (nL t) ++ u) = cond (decide (0 < leadD dig ((t.take (nL t) ++ u).drop (leadD dig t + 1))) && decide ((t.take (nL t) ++ u).getD (leadD dig t) 0 = 46)) (leadD dig t + (1 + leadD dig ((t.take (nL t) ++ u).drop (leadD dig t + 1)))) (leadD dig t) := by
    conv => lhs; unfold nL
    rw [show leadD dig (t.take (cond (decide (0 < leadD dig (t.drop (leadD dig t + 1))) && decide (t.getD (leadD dig t) 0 = 46)) (leadD dig t + (1 + leadD dig (t.drop (leadD dig t + 1)))) (leadD dig t)) ++ u) = leadD dig t from hl]
    rfl
  rw [key]
  cases hb : decide (0 < leadD dig (t.drop (leadD dig t + 1))) && decide (t.getD (leadD dig t) 0 = 46) with
  | false =>
    have hn : nL t = leadD dig t := by unfold nL; rw [hb]; rfl
    rw [hn] at hle ⊢
    rw [getD_at hle, decide_eq_false (show ¬ u.getD 0 0 = 46 by rcases hu.zero with h | h <;> rw [h] <;> decide), Bool.and_false]; rfl
  | true =>
    have hn : nL t = leadD dig t + (1 + leadD dig (t.drop (leadD dig t + 1))) := by unfold nL; rw [hb]; rfl
    rw [hn] at hle ⊢
    rw [getD_in (by omega) hle, drop_in (by omega) hle, show leadD dig t + (1 + leadD dig (t.drop (leadD dig t + 1))) - (leadD dig t + 1) = leadD dig (t.drop (leadD dig t + 1)) by omega]
    rw [lead_local dig (by rfl) (t.drop (leadD dig t + 1)) _ u hu (leadD_le _ _) (Nat.le_refl _), hb]; rfl
/-! ### faults -/
theorem faultF_mem (t : List UInt8) : ∀ (m i : Nat) (b : List UInt8), i + m = 8 → 1 ≤ i → faultF t m i b = b ∨ ∃ j : Nat, 1 ≤ j ∧ j ≤ 7 ∧ faultF t m i b = nameV j ∧ pre t (nameV j) = true
  | 0, _, b, _, _ => .inl rfl
  | m + 1, i, b, h, h1 => by
    rw [faultF]
    cases hc : (decide (b.length < (nameV i).length) && pre t (nameV i)) with
    | false => exact faultF_mem t m (i + 1) b (by omega) (by omega)
    | true =>
      rw [Bool.and_eq_true] at hc
      rcases faultF_mem t m (i + 1) (nameV i) (by omega) (by omega) with e | e
      · exact .inr ⟨i, h1, by omega, e, hc.2⟩
      · exact .inr e
theorem fault_local (t u : List UInt8) (hu : Sep u) (h : faultF t 7 1 [] ≠ []) : (faultF t 7 1 []).length ≤ t.length ∧ t.take (faultF t 7 1 []).length = faultF t 7 1 [] ∧ faultF (faultF t 7 1 [] ++ u) 7 1 [] = faultF t 7 1 [] ∧ (faultF t 7 1 []).getD 0 0 = 35 := by
  rcases faultF_mem t 7 1 [] rfl (Nat.le_refl _) with e | ⟨j, h1, h7, e, hp⟩
  · exact absurd e h
  · rw [e]
    have hl := pre_le hp
    have ht : t.take (nameV j).length = nameV j := of_decide_eq_true hp
    have hu' : u = [] ∨ ∃ v, u = 32 :: v := by
      cases u with
      | nil => exact .inl rfl
      | cons c v => exact .inr ⟨v, by rw [show c = 32 from by rcases hu with h | h; cases h; exact Option.some.inj h]⟩
    have hj : j = 1 ∨ j = 2 ∨ j = 3 ∨ j = 4 ∨ j = 5 ∨ j = 6 ∨ j = 7 := by omega
    refine ⟨hl, ht, ?_, ?_⟩
    · rcases hu' with h | ⟨v, h⟩ <;> subst h <;> rcases hj with h | h | h | h | h | h | h <;> subst h <;> kernel_rfl
    · rcases hj with h | h | h | h | h | h | h <;> subst h <;> kernel_rfl
/-! ### a token, by its own bytes -/
abbrev Ft := Bool × List UInt8 × List UInt8
def z0T : Ft := (false, [], [])
/-- Its kind, text, number and how many bytes it has. -/
def tk (t : List UInt8) : Option (Int × List UInt8 × Ft × Nat) :=
  cond (dig (t.getD 0 0)) (cond (decide ((decV (t.take (nL t))).2 = 0)) (some (1, t.take (nL t), (decV (t.take (nL t))).1, nL t)) none)
    (cond (decide (t.getD 0 0 = 34)) (match txt (t.drop 1) with
      | none => none
      | some x => cond (plainQ x.1) (some (2, x.1, z0T, x.2 + 1)) none)
      (cond (decide (t.getD 0 0 = 35)) (cond (decide (faultF t 7 1 [] = [])) none (some (10, faultF t 7 1 [], z0T, (faultF t 7 1 []).length)))
        (cond (wd (t.getD 0 0)) (some (3, t.take (leadD wd t), z0T, leadD wd t))
          (cond (decide ((signV t).2 = 0)) none (some ((signV t).1, t.take (signV t).2.toNat, z0T, (signV t).2.toNat))))))
theorem sub_take (s : List UInt8) (p n : Nat) : sub s p n = (s.drop p).take n := by
  unfold sub
  rw [List.drop_take, show p + n - p = n by omega]
theorem getD_drop0 (s : List UInt8) (p : Nat) : s.getD p 0 = (s.drop p).getD 0 0 := by
  rw [List.getD_eq_getElem?_getD, List.getD_eq_getElem?_getD, List.getElem?_drop]; rfl
theorem lead_head {p : UInt8 → Bool} {t : List UInt8} (h : p (t.getD 0 0) = true) (h0 : p 0 = false) : 1 ≤ leadD p t ∧ 1 ≤ t.length := by
  cases t with
  | nil => rw [show ([] : List UInt8).getD 0 0 = 0 from rfl, h0] at h; cases h
  | cons a t =>
    change p a = true at h
    unfold leadD
    rw [List.takeWhile_cons, if_pos h]
    exact ⟨by simp, by simp⟩
theorem sign_local (t u : List UInt8) (hu : Sep u) (h : ¬ (signV t).2 = 0) : 0 < (signV t).2.toNat ∧ (signV t).2.toNat ≤ t.length ∧ signV (t.take (signV t).2.toNat ++ u) = signV t := by
  cases h2 : two t with
  | true =>
    have e : signV t = (4, 2) := by unfold signV; rw [h2]; rfl
    have hl := two_len h2
    rw [e]
    refine ⟨by simp, hl, ?_⟩
    have : two (t.take 2 ++ u) = true := by
      unfold two at h2 ⊢
      rw [take_in (Nat.le_refl 2) hl]; exact h2
    show signV (t.take 2 ++ u) = _
    unfold signV; rw [this]; rfl
  | false =>
    have e : signV t = cond (decide (one (t.getD 0 0) = 0)) (0, 0) (one (t.getD 0 0), 1) := by unfold signV; rw [h2]; rfl
    cases h1 : decide (one (t.getD 0 0) = 0) with
    | true => rw [e, h1] at h; exact absurd rfl h
    | false =>
      rw [h1, cond_false] at e
      cases t with
      | nil => exact absurd h1 (by decide)
      | cons a t =>
        rw [e]
        refine ⟨by simp, by simp, ?_⟩
        show signV (a :: u) = _
        have hw : two (a :: u) = false := by
          unfold two
          rcases hu with hu | hu
          · subst hu; simp
          · cases u with
            | nil => simp
            | cons c v =>
              obtain rfl : c = 32 := Option.some.inj hu
              simp
        unfold signV
        rw [hw]
        show cond (decide (one a = 0)) _ _ = _
        rw [show decide (one a = 0) = false from h1]; rfl
theorem tk_local (t : List UInt8) (k : Int) (x : List UInt8) (r : Ft) (n : Nat) (h : tk t = some (k, x, r, n)) : 0 < n ∧ n ≤ t.length ∧ k ≠ 0 ∧ ∀ u, Sep u → tk (t.take n ++ u) = some (k, x, r, n) := by
  have hne : ∀ c : UInt8, c ≠ 0 → t.getD 0 0 = c → 1 ≤ t.length := fun c hc e => by
    cases t with
    | nil => exact absurd e.symm hc
    | cons a t => simp
  unfold tk at h
  cases hd : dig (t.getD 0 0) with
  | true =>
    rw [hd, cond_true] at h
    obtain ⟨l1, l2⟩ := lead_head hd (by rfl)
    have l3 := lead_nL t
    have l4 := nL_le t
    cases he : decide ((decV (t.take (nL t))).2 = 0) with
    | false => rw [he] at h; cases h
    | true =>
      rw [he, cond_true] at h
      cases h
      refine ⟨by omega, l4, by decide, fun u hu => ?_⟩
      unfold tk
      rw [getD_in (by omega) l4, hd, cond_true, nL_local t u hu, take_in (Nat.le_refl _) l4, he]; rfl
  | false =>
    rw [hd, cond_false] at h
    cases hq : decide (t.getD 0 0 = 34) with
    | true =>
      rw [hq, cond_true] at h
      have l2 := hne 34 (by decide) (of_decide_eq_true hq)
      cases ht : txt (t.drop 1) with
      | none => rw [ht] at h; cases h
      | some y =>
        rw [ht] at h
        dsimp only at h
        cases hp : plainQ y.1 with
        | false => rw [hp] at h; cases h
        | true =>
          rw [hp, cond_true] at h
          cases h
          obtain ⟨m1, m2⟩ := txt_local _ _ y.1 y.2 (Nat.le_refl _) ht
          rw [List.length_drop] at m1
          have l4 : y.2 + 1 ≤ t.length := by omega
          refine ⟨by omega, l4, by decide, fun u hu => ?_⟩
          unfold tk
          rw [getD_in (by omega) l4, hd, cond_false, hq, cond_true, drop_in (by omega) l4, Nat.add_sub_cancel, m2 u hu]
          dsimp only
          rw [hp]; rfl
    | false =>
      rw [hq, cond_false] at h
      cases hf : decide (t.getD 0 0 = 35) with
      | true =>
        rw [hf, cond_true] at h
        cases hz : decide (faultF t 7 1 [] = []) with
        | true => rw [hz] at h; cases h
        | false =>
          rw [hz, cond_false] at h
          cases h
          have hz' := of_decide_eq_false hz
          have hpos : 0 < (faultF t 7 1 []).length := List.length_pos_iff.2 hz'
          obtain ⟨l4, _, _, _⟩ := fault_local t [] (.inl rfl) hz'
          refine ⟨hpos, l4, by decide, fun u hu => ?_⟩
          obtain ⟨_, f2, f3, f4⟩ := fault_local t u hu hz'
          unfold tk
          rw [getD_in hpos l4, hd, cond_false, hq, cond_false, hf, cond_true, f2, f3, hz]; rfl
      | false =>
        rw [hf, cond_false] at h
        cases hw : wd (t.getD 0 0) with
        | true =>
          rw [hw, cond_true] at h
          cases h
          obtain ⟨l1, l2⟩ := lead_head hw (by rfl)
          have l4 := leadD_le wd t
          refine ⟨l1, l4, by decide, fun u hu => ?_⟩
          unfold tk
          rw [getD_in (by omega) l4, hd, cond_false, hq, cond_false, hf, cond_false, hw, cond_true, lead_local wd (by rfl) t _ u hu l4 (Nat.le_refl _), take_in (Nat.le_refl _) l4]
        | false =>
          rw [hw, cond_false] at h
          cases hs : decide ((signV t).2 = 0) with
          | true => rw [hs] at h; cases h
          | false =>
            rw [hs, cond_false] at h
            cases h
            have hs' := of_decide_eq_false hs
            obtain ⟨l1, l4, _⟩ := sign_local t [] (.inl rfl) hs'
            have hk : (signV t).1 ≠ 0 := by
              intro hk
              unfold signV at hk hs'
              cases h2 : two t with
              | true => rw [h2] at hk; cases hk
              | false =>
                rw [h2, cond_false] at hk hs'
                cases h1 : decide (one (t.getD 0 0) = 0) with
                | true => rw [h1] at hs'; exact hs' rfl
                | false => rw [h1] at hk; exact of_decide_eq_false h1 hk
            refine ⟨l1, l4, hk, fun u hu => ?_⟩
            obtain ⟨_, _, s3⟩ := sign_local t u hu hs'
            unfold tk
            rw [getD_in l1 l4, hd, cond_false, hq, cond_false, hf, cond_false, hw, cond_false, s3, hs, cond_false, take_in (Nat.le_refl _) l4]
/-- What stands at a place, told by its bytes. -/
def TT (p : Nat) (o : Option (Int × List UInt8 × Ft × Nat)) (q : Tk × Int × Int) : Prop := match o with
  | some y => q = ((y.1, y.2.1, (p : Int), y.2.2.1), ((p + y.2.2.2 : Nat) : Int), 0)
  | none => q.2.2 ≠ 0
theorem TT.ok {p : Nat} (k : Int) (x : List UInt8) (r : Ft) (n : Nat) : TT p (some (k, x, r, n)) ((k, x, (p : Int), r), ((p + n : Nat) : Int), 0) := rfl
theorem TT.no {p : Nat} {t : Tk} {a e : Int} (h : e ≠ 0) : TT p none (t, a, e) := h
theorem tok_tk (s : List UInt8) (p : Nat) : TT p (tk (s.drop p)) (tokAt s p) := by
  have e1 : s.drop (p + 1) = (s.drop p).drop 1 := by rw [List.drop_drop]
  unfold tokAt tk faultL
  rw [getD_drop0 s p, numL_nL, sub_take, sub_take, sub_take, e1]
  generalize s.drop p = t
  cases dig (t.getD 0 0) with
  | true =>
    rw [cond_true, cond_true, fin]
    cases h : decide ((decV (t.take (nL t))).2 = 0) with
    | true => rw [cond_true, cond_true]; exact TT.ok _ _ _ _
    | false => rw [cond_false, cond_false]; exact TT.no (of_decide_eq_false h)
  | false =>
    rw [cond_false, cond_false]
    cases decide (t.getD 0 0 = 34) with
    | true =>
      rw [cond_true, cond_true]
      cases txt (t.drop 1) with
      | none => exact TT.no (by decide)
      | some y =>
        dsimp only
        cases plainQ y.1 with
        | true => exact TT.ok _ _ _ _
        | false => exact TT.no (by decide)
    | false =>
      rw [cond_false, cond_false]
      cases decide (t.getD 0 0 = 35) with
      | true =>
        rw [cond_true, cond_true]
        cases decide (faultF t 7 1 [] = []) with
        | true => exact TT.no (by decide)
        | false => exact TT.ok _ _ _ _
      | false =>
        rw [cond_false, cond_false]
        cases wd (t.getD 0 0) with
        | true => exact TT.ok _ _ _ _
        | false =>
          rw [cond_false, cond_false]
          cases decide ((signV t).2 = 0) with
          | true => exact TT.no (by decide)
          | false => exact TT.ok _ _ _ _
end Go.Proofs.YtenebjaipfcflaaDoor.D

/- All tokens of a text, told again with one blank between: plain Lean. -/
set_option linter.unusedVariables false
set_option linter.unusedSimpArgs false
namespace Go.Proofs.YtenebjaipfcflaaDoor.D
open Go Go.Proofs.YtenebjaipfcflaaDoor.K
open Go.Proofs.YtenebjaipfcflaaDoor.P (wS dig)
open Go.Proofs.YtenebjaipfcflaaDoor.Q (txt plainQ)
/-- A token's kind, text, number, and its own bytes. -/
abbrev Et := Int × List UInt8 × Ft × List UInt8
def lexS : Nat → List UInt8 → Option (List Et)
  | 0, _ => none
  | f + 1, t => match t.drop (leadD spc t) with
    | [] => some []
    | a :: u => match tk (a :: u) with
      | none => none
      | some y => (lexS f ((a :: u).drop y.2.2.2)).map fun l => (y.1, y.2.1, y.2.2.1, (a :: u).take y.2.2.2) :: l
theorem lead_stop {p : UInt8 → Bool} : ∀ (t : List UInt8) {a : UInt8} {u : List UInt8}, t.drop (leadD p t) = a :: u → p a = false
  | [], a, u, h => by simp [leadD] at h
  | b :: t, a, u, h => by
    unfold leadD at h
    rw [List.takeWhile_cons] at h
    cases hb : p b with
    | true =>
      rw [hb] at h
      simp only [if_true, List.length_cons, List.drop_succ_cons] at h
      exact lead_stop t h
    | false =>
      rw [hb] at h
      simp only [List.length_nil, List.drop_zero, Bool.false_eq_true, if_false] at h
      cases h
      exact hb
theorem lead_none {p : UInt8 → Bool} {a : UInt8} (h : p a = false) (u : List UInt8) : leadD p (a :: u) = 0 := by
  unfold leadD
  rw [List.takeWhile_cons, h]; rfl
theorem lexS_blank (f : Nat) (u : List UInt8) : lexS (f + 1) (32 :: u) = lexS (f + 1) u := by
  have : (32 :: u).drop (leadD spc (32 :: u)) = u.drop (leadD spc u) := by
    unfold leadD
    rw [List.takeWhile_cons, if_pos (by rfl)]
    rfl
  unfold lexS
  rw [this]
theorem lexS_tok (f : Nat) {a : UInt8} {u : List UInt8} (h : spc a = false) {y : Int × List UInt8 × Ft × Nat} (ht : tk (a :: u) = some y) : lexS (f + 1) (a :: u) = (lexS f ((a :: u).drop y.2.2.2)).map fun l => (y.1, y.2.1, y.2.2.1, (a :: u).take y.2.2.2) :: l := by
  have e : (a :: u).drop (leadD spc (a :: u)) = a :: u := by rw [lead_none h, List.drop_zero]
  conv => lhs; unfold lexS
  rw [e]
  dsimp only
  rw [ht]
def joinW : List Et → List UInt8
  | [] => []
  | e :: l => e.2.2.2 ++ 32 :: joinW l
theorem lexS_again : ∀ (f : Nat) (t : List UInt8) (l : List Et), lexS f t = some l → lexS f (joinW l) = some l
  | 0, t, l, h => by cases h
  | f + 1, t, l, h => by
    cases hd : t.drop (leadD spc t) with
    | nil =>
      unfold lexS at h
      rw [hd] at h
      cases h
      rfl
    | cons a u =>
      have ha := lead_stop t hd
      have e : lexS (f + 1) t = lexS (f + 1) (a :: u) := by
        conv => lhs; unfold lexS
        conv => rhs; unfold lexS
        rw [hd, lead_none ha, List.drop_zero]
      rw [e] at h
      cases ht : tk (a :: u) with
      | none =>
        unfold lexS at h
        rw [lead_none ha, List.drop_zero] at h
        dsimp only at h
        rw [ht] at h
        cases h
      | some y =>
        rw [lexS_tok f ha ht] at h
        obtain ⟨k, x, r, n⟩ := y
        obtain ⟨n0, n1, _, n3⟩ := tk_local _ _ _ _ _ ht
        dsimp only at h
        cases hr : lexS f ((a :: u).drop n) with
        | none => rw [hr] at h; cases h
        | some l' =>
          rw [hr] at h
          cases h
          have ih := lexS_again f _ _ hr
          show lexS (f + 1) ((a :: u).take n ++ 32 :: joinW l') = _
          have hloc := n3 (32 :: joinW l') (.inr rfl)
          cases n with
          | zero => omega
          | succ n =>
            rw [List.take_succ_cons, List.cons_append] at hloc ⊢
            rw [lexS_tok f ha hloc]
            dsimp only
            have hlen : (a :: u.take n).length = n + 1 := by
              simp only [List.length_cons] at n1
              rw [List.length_cons, List.length_take]; omega
            have e1 : (a :: (u.take n ++ 32 :: joinW l')).drop (n + 1) = 32 :: joinW l' := by
              rw [← List.cons_append, List.drop_append_of_le_length (by omega), List.drop_of_length_le (by omega)]; rfl
            have e2 : (a :: (u.take n ++ 32 :: joinW l')).take (n + 1) = a :: u.take n := by
              rw [← List.cons_append, List.take_append_of_le_length (by omega), List.take_of_length_le (by omega)]
            rw [e1, e2]
            cases f with
            | zero => cases hr
            | succ f => rw [lexS_blank, ih]; rfl
/-! ### a token's own bytes -/
/-- Each quote twice. -/
def dbl : List UInt8 → List UInt8
  | [] => []
  | c :: t => if c = 34 then 34 :: 34 :: dbl t else c :: dbl t
theorem dbl_other {c : UInt8} (h : ¬ c = 34) (t : List UInt8) : dbl (c :: t) = c :: dbl t := if_neg h
def quoteV (x : List UInt8) : List UInt8 := 34 :: (dbl x ++ [34])
theorem txt_bytes : ∀ (n : Nat) (t x : List UInt8) (m : Nat), t.length ≤ n → txt t = some (x, m) → t.take m = dbl x ++ [34]
  | _, [], x, m, _, h => by rw [gtxt_nil] at h; cases h
  | 0, c :: t, _, _, hn, _ => by simp at hn
  | n + 1, c :: t, x, m, hn, h => by
    simp only [List.length_cons] at hn
    by_cases hc : c = 34
    · subst hc
      cases t with
      | nil =>
        rw [gtxt_one (by simp)] at h
        cases h
        rfl
      | cons d t =>
        by_cases hd : d = 34
        · subst hd
          rw [gtxt_two] at h
          cases ht : txt t with
          | none => rw [ht] at h; cases h
          | some y =>
            rw [ht] at h
            cases h
            simp only [List.length_cons] at hn
            have ih := txt_bytes n t y.1 y.2 (by omega) ht
            show (34 :: 34 :: t).take (2 + y.2) = dbl (34 :: y.1) ++ [34]
            rw [show 2 + y.2 = y.2 + 1 + 1 by omega, List.take_succ_cons, List.take_succ_cons, ih]
            rfl
        · have hne : (d :: t).head? ≠ some 34 := fun e => hd (Option.some.inj e)
          rw [gtxt_one hne] at h
          cases h
          rfl
    · rw [gtxt_other hc] at h
      cases ht : txt t with
      | none => rw [ht] at h; cases h
      | some y =>
        rw [ht] at h
        cases h
        have ih := txt_bytes n t y.1 y.2 (by omega) ht
        show (c :: t).take (1 + y.2) = dbl (c :: y.1) ++ [34]
        rw [show 1 + y.2 = y.2 + 1 by omega, List.take_succ_cons, ih]
        rw [dbl_other hc]; rfl
theorem tk_bytes (t : List UInt8) (k : Int) (x : List UInt8) (r : Ft) (n : Nat) (h : tk t = some (k, x, r, n)) : (k = 2 → quoteV x = t.take n) ∧ (¬ k = 2 → x = t.take n) := by
  unfold tk at h
  cases hd : dig (t.getD 0 0) with
  | true =>
    rw [hd, cond_true] at h
    cases he : decide ((decV (t.take (nL t))).2 = 0) with
    | false => rw [he] at h; cases h
    | true => rw [he, cond_true] at h; cases h; exact ⟨fun e => absurd e (by decide), fun _ => rfl⟩
  | false =>
    rw [hd, cond_false] at h
    cases hq : decide (t.getD 0 0 = 34) with
    | true =>
      rw [hq, cond_true] at h
      have h34 := of_decide_eq_true hq
      cases ht : txt (t.drop 1) with
      | none => rw [ht] at h; cases h
      | some y =>
        rw [ht] at h
        dsimp only at h
        cases hp : plainQ y.1 with
        | false => rw [hp] at h; cases h
        | true =>
          rw [hp, cond_true] at h
          cases h
          refine ⟨fun _ => ?_, fun e => absurd rfl e⟩
          cases t with
          | nil => cases h34
          | cons a u =>
            have ha : a = 34 := h34
            subst ha
            have := txt_bytes _ u y.1 y.2 (Nat.le_refl _) ht
            show quoteV y.1 = (34 :: u).take (y.2 + 1)
            rw [List.take_succ_cons, this]; rfl
    | false =>
      rw [hq, cond_false] at h
      cases hf : decide (t.getD 0 0 = 35) with
      | true =>
        rw [hf, cond_true] at h
        cases hz : decide (faultF t 7 1 [] = []) with
        | true => rw [hz] at h; cases h
        | false =>
          rw [hz, cond_false] at h
          cases h
          obtain ⟨_, f2, _, _⟩ := fault_local t [] (.inl rfl) (of_decide_eq_false hz)
          exact ⟨fun e => absurd e (by decide), fun _ => f2.symm⟩
      | false =>
        rw [hf, cond_false] at h
        cases hw : wd (t.getD 0 0) with
        | true => rw [hw, cond_true] at h; cases h; exact ⟨fun e => absurd e (by decide), fun _ => rfl⟩
        | false =>
          rw [hw, cond_false] at h
          cases hs : decide ((signV t).2 = 0) with
          | true => rw [hs] at h; cases h
          | false =>
            rw [hs, cond_false] at h
            cases h
            refine ⟨fun e => ?_, fun _ => rfl⟩
            exfalso
            have e' : (signV t).1 = 2 := e
            unfold signV at e'
            cases h2 : two t with
            | true => rw [h2] at e'; cases e'
            | false =>
              rw [h2, cond_false] at e'
              cases h1 : decide (one (t.getD 0 0) = 0) with
              | true => rw [h1] at e'; cases e'
              | false =>
                rw [h1, cond_false] at e'
                change one (t.getD 0 0) = 2 at e'
                generalize t.getD 0 0 = b at e'
                unfold one at e'
                revert e'
                cases decide (b = 40) <;> cases decide (b = 41) <;> cases decide (b = 44) <;> cases decide (b = 58) <;> cases decide (b = 33) <;> first | (intro e'; cases e'; done) | skip
                generalize (decide (b = 43) || _) = z
                cases z <;> (intro e'; cases e')
end Go.Proofs.YtenebjaipfcflaaDoor.D

/- The program's tokens of a text, told by lexS: plain Lean. -/
set_option linter.unusedVariables false
set_option linter.unusedSimpArgs false
namespace Go.Proofs.YtenebjaipfcflaaDoor.D
open Go Go.Proofs.YtenebjaipfcflaaDoor.K
open Go.Proofs.YtenebjaipfcflaaDoor.P (wS dig)
/-- The program's tokens, from a place on, beside what lexS tells. -/
inductive Mt (s : List UInt8) : Nat → List Et → List Tk → Prop
  | nil {p : Nat} (h : p + leadD spc (s.drop p) = s.length) : Mt s p [] [(0, [], (s.length : Int), z0T)]
  | cons {p q n : Nat} {k : Int} {x w : List UInt8} {r : Ft} {E : List Et} {l : List Tk} (hq : q = p + leadD spc (s.drop p)) (hw : w = (s.drop q).take n) (h0 : 0 < n) (hk : k ≠ 0) (hle : q + n ≤ s.length) (h2 : k = 2 → quoteV x = w) (h3 : ¬ k = 2 → x = w) (ht : Mt s (q + n) E l) : Mt s p ((k, x, r, w) :: E) ((k, x, (q : Int), r) :: l)
theorem all_lexS (s : List UInt8) (hs : s.length ≤ 300) : ∀ (f p : Nat) (acc : List Tk), p ≤ s.length → s.length - p < f → acc.length ≤ p →
    (∀ E, lexS f (s.drop p) = some E → ∃ l, Mt s p E l ∧ lex_All_1 s (p : Int) acc = some (acc ++ l, 0, 0)) ∧ (lexS f (s.drop p) = none → ∃ q, lex_All_1 s (p : Int) acc = some ([], q) ∧ q.2 ≠ 0) := by
  intro f
  induction f with
  | zero => intro p acc hp hf ha; omega
  | succ f ih =>
    intro p acc hp hf ha
    have hq := leadD_at spc s p hp
    have hn : nextV s (p : Int) = stand s (p + leadD spc (s.drop p)) := by
      unfold nextV
      rw [decide_eq_false (show ¬ (p : Int) < 0 by omega), decide_eq_false (show ¬ (p : Int) > (s.length : Int) by omega), Int.toNat_natCast]; rfl
    have hdd : (s.drop p).drop (leadD spc (s.drop p)) = s.drop (p + leadD spc (s.drop p)) := List.drop_drop ..
    rw [lex_All_1_eq, xNext s (by omega), Option.bind_some, hn]
    have hpq : p ≤ p + leadD spc (s.drop p) := Nat.le_add_right _ _
    generalize hqe : p + leadD spc (s.drop p) = q at hq hdd hpq ⊢
    by_cases hend : q = s.length
    · have hl : lexS (f + 1) (s.drop p) = some [] := by
        unfold lexS
        rw [hdd, List.drop_of_length_le (by omega)]
      have hst : stand s q = ((0, [], (q : Int), z0T), (q : Int), 0) := by unfold stand; rw [decide_eq_true hend]; rfl
      rw [hst]
      refine ⟨fun E hE => ?_, fun h => by rw [hl] at h; cases h⟩
      rw [hl] at hE
      cases hE
      refine ⟨[(0, [], (s.length : Int), z0T)], .nil (hqe.trans hend), ?_⟩
      show cond (Nat.ble ((acc.length + 1) * 72) 140737488355328) (some (acc ++ [(0, [], (q : Int), z0T)], (0 : Int), (0 : Int))) none = _
      rw [cT (Nat.ble_eq_true_of_le (by omega)), hend]
    · have hlt : q < s.length := by omega
      have hst : stand s q = tokAt s q := by unfold stand; rw [decide_eq_false hend]; rfl
      have hT := tok_tk s q
      rw [hst]
      have hcons : s.drop q = s.getD q 0 :: s.drop (q + 1) := by
        rw [List.drop_eq_getElem_cons hlt, List.getD_eq_getElem?_getD, List.getElem?_eq_getElem hlt]; rfl
      cases ht : tk (s.drop q) with
      | none =>
        rw [ht] at hT
        have hT : (tokAt s q).2.2 ≠ 0 := hT
        have hl : lexS (f + 1) (s.drop p) = none := by
          unfold lexS
          rw [hdd]
          rw [hcons] at ht ⊢
          dsimp only
          rw [ht]
        refine ⟨fun E hE => (by rw [hl] at hE; cases hE), fun _ => ⟨(tokAt s q).2, ?_, hT⟩⟩
        rw [decide_eq_false hT]; rfl
      | some y =>
        obtain ⟨k, x, r, n⟩ := y
        rw [ht] at hT
        have hT : tokAt s q = ((k, x, (q : Int), r), ((q + n : Nat) : Int), 0) := hT
        obtain ⟨n0, n1, nk, _⟩ := tk_local _ _ _ _ _ ht
        obtain ⟨b1, b2⟩ := tk_bytes _ _ _ _ _ ht
        rw [List.length_drop] at n1
        have hl : lexS (f + 1) (s.drop p) = (lexS f (s.drop (q + n))).map fun l => (k, x, r, (s.drop q).take n) :: l := by
          have e : s.drop (q + n) = (s.drop q).drop n := by rw [List.drop_drop]
          rw [e]
          conv => lhs; unfold lexS
          rw [hdd]
          rw [hcons] at ht ⊢
          dsimp only
          rw [ht]
        obtain ⟨i1, i2⟩ := ih (q + n) (acc ++ [(k, x, (q : Int), r)]) (by omega) (by omega) (by rw [List.length_append]; simp; omega)
        have step : cond (!decide ((tokAt s q).2.2 = 0)) (some ([], (tokAt s q).2)) (cond (Nat.ble ((acc.length + [(tokAt s q).1].length) * 72) 140737488355328) (cond (decide ((tokAt s q).1.1 = 0)) (some (acc ++ [(tokAt s q).1], 0, 0)) (lex_All_1 s (tokAt s q).2.1 (acc ++ [(tokAt s q).1]))) none) = lex_All_1 s ((q + n : Nat) : Int) (acc ++ [(k, x, (q : Int), r)]) := by
          rw [hT]
          show cond (Nat.ble ((acc.length + 1) * 72) 140737488355328) (cond (decide (k = 0)) _ _) none = _
          rw [cT (Nat.ble_eq_true_of_le (by omega)), decide_eq_false nk]; rfl
        refine ⟨fun E hE => ?_, fun h => ?_⟩
        · rw [hl] at hE
          cases hr : lexS f (s.drop (q + n)) with
          | none => rw [hr] at hE; cases hE
          | some E' =>
            rw [hr] at hE
            cases hE
            obtain ⟨l, hm, he⟩ := i1 E' hr
            refine ⟨(k, x, (q : Int), r) :: l, .cons hqe.symm rfl n0 nk (by omega) b1 b2 hm, ?_⟩
            refine step.trans (he.trans ?_)
            rw [List.append_assoc]; rfl
        · rw [hl] at h
          cases hr : lexS f (s.drop (q + n)) with
          | none =>
            obtain ⟨z, z1, z2⟩ := i2 hr
            exact ⟨z, step.trans z1, z2⟩
          | some E' => rw [hr] at h; cases h
end Go.Proofs.YtenebjaipfcflaaDoor.D

/- LexAgain: a text as formulas have it; plain Lean over the law's equations (under way). -/
set_option linter.unusedVariables false
set_option linter.unusedSimpArgs false
namespace Go.Proofs.YtenebjaipfcflaaDoor.D
open Go Go.Proofs.YtenebjaipfcflaaDoor.K
open Go.Proofs.YtenebjaipfcflaaDoor.P (wS dig)
theorem take_one (x : List UInt8) (i : Nat) (h : i < x.length) : (x.take (i + 1)).drop i = [x.getD i 0] := by
  rw [List.drop_take, show i + 1 - i = 1 by omega, List.drop_eq_getElem_cons h, List.take_succ_cons, List.take_zero, List.getD_eq_getElem?_getD, List.getElem?_eq_getElem h]; rfl
theorem quoted1 (x : List UInt8) (hx : x.length ≤ 1000) : ∀ (m i : Nat) (o : List UInt8), i + m = x.length → o.length ≤ 2 * i + 1 → abacistlaw12_quoted_1 x o (i : Int) = some (o ++ (dbl (x.drop i) ++ [34]))
  | 0, i, o, h, ho => by
    rw [abacistlaw12_quoted_1_eq, cF (decide_eq_false (by omega)), cT (Nat.ble_eq_true_of_le (by simp only [List.length_cons, List.length_nil]; omega)), List.drop_of_length_le (by omega)]; rfl
  | m + 1, i, o, h, ho => by
    have hi : i < x.length := by omega
    have q2 : ∀ o' : List UInt8, o'.length ≤ 2 * i + 2 → abacistlaw12_quoted_2 x o' (i : Int) = some (o' ++ (x.getD i 0 :: (dbl (x.drop (i + 1)) ++ [34]))) := fun o' ho' => by
      rw [abacistlaw12_quoted_2_eq, wS (by omega), cT (by simp; omega), Int.toNat_natCast, Int.toNat_natCast, take_one x i hi, cT (Nat.ble_eq_true_of_le (by simp only [List.length_cons, List.length_nil]; omega)), quoted1 x hx m (i + 1) _ (by omega) (by rw [List.length_append]; simp; omega), List.append_assoc]; rfl
    have hc : x.drop i = x.getD i 0 :: x.drop (i + 1) := by
      rw [List.drop_eq_getElem_cons hi, List.getD_eq_getElem?_getD, List.getElem?_eq_getElem hi]; rfl
    rw [abacistlaw12_quoted_1_eq, cT (decide_eq_true (by omega)), cT (ix hi), Int.toNat_natCast, show decide (((x.getD i 0).toNat : Int) = 34) = _ from eqD _ 34, hc]
    by_cases h34 : x.getD i 0 = 34
    · rw [cT (decide_eq_true h34), cT (Nat.ble_eq_true_of_le (by simp only [List.length_cons, List.length_nil]; omega)), q2 _ (by rw [List.length_append]; simp; omega), h34, List.append_assoc]; rfl
    · rw [cF (decide_eq_false h34), q2 _ (by omega), dbl_other h34]; rfl
theorem xQuoted (x : List UInt8) (hx : x.length ≤ 1000) : abacistlaw12_quoted x = some (quoteV x) := by
  rw [abacistlaw12_quoted_eq]
  exact quoted1 x hx x.length 0 [34] (Nat.zero_add _) (by simp)
/-! ### the law's loop -/
theorem again_skip (s : List UInt8) (hs : s.length ≤ 300) (l : List Tk) (g w : List UInt8) (i : Nat) (p : Nat) (hp : p ≤ s.length) : abacistlaw12_LexAgain_4 s l g (p : Int) (i : Int) w = abacistlaw12_LexAgain_6 s l g ((p + leadD spc (s.drop p) : Nat) : Int) (i : Int) w false := by
  have h := loop_lead s p spc (fun j => abacistlaw12_LexAgain_4 s l g ((p + j : Nat) : Int) (i : Int) w) (fun j => abacistlaw12_LexAgain_6 s l g ((p + j : Nat) : Int) (i : Int) w false)
    (fun j hj => by
      show abacistlaw12_LexAgain_4 s l g ((p + j : Nat) : Int) (i : Int) w = _
      rw [abacistlaw12_LexAgain_4_eq, cT (decide_eq_true (by omega)), cT (ix hj), Int.toNat_natCast, show decide (((s.getD (p + j) 0).toNat : Int) = 32) = _ from eqD _ 32]
      show abacistlaw12_LexAgain_6 s l g ((p + j : Nat) : Int) (i : Int) w (spc (s.getD (p + j) 0)) = _
      cases spc (s.getD (p + j) 0) with
      | false => rfl
      | true => rw [abacistlaw12_LexAgain_6_eq, cond_true, wS (by omega)]; rfl)
    (fun j hj => by
      show abacistlaw12_LexAgain_4 s l g ((p + j : Nat) : Int) (i : Int) w = _
      rw [abacistlaw12_LexAgain_4_eq, cF (decide_eq_false (by omega))])
    (s.length - p) 0 (by omega)
  simp only [Nat.zero_add, Nat.add_zero] at h
  exact h
/-- One token more: its bytes stand where it says. -/
theorem again_step (s : List UInt8) (hs : s.length ≤ 300) (l : List Tk) (g w : List UInt8) (i q : Nat) (hi : i < l.length) (hat : (l.getD i zT).2.2.1 = (q : Int)) (hq : q + w.length ≤ s.length) (hw : (s.drop q).take w.length = w) (hg : g.length ≤ 100000) (hl : i ≤ 100000) :
    abacistlaw12_LexAgain_6 s l g (q : Int) (i : Int) w false = abacistlaw12_LexAgain_1 s l (cond (decide (0 < i)) (g ++ [32] ++ w) (g ++ w)) ((q + w.length : Nat) : Int) ((i + 1 : Nat) : Int) := by
  have wa : IntKind.i64.wrap ((q : Int) + (w.length : Int)) = ((q + w.length : Nat) : Int) := by rw [wrap64 (by omega) (by omega)]; omega
  have st : (s.take (q + w.length)).drop q = w := by rw [List.drop_take, show q + w.length - q = w.length by omega]; exact hw
  have n9 : ∀ g' : List UInt8, g'.length ≤ 100001 → abacistlaw12_LexAgain_9 s l g' ((q + w.length : Nat) : Int) (i : Int) w = abacistlaw12_LexAgain_1 s l (g' ++ w) ((q + w.length : Nat) : Int) ((i + 1 : Nat) : Int) := fun g' hg' => by
    rw [abacistlaw12_LexAgain_9_eq, cT (Nat.ble_eq_true_of_le (by omega)), wS (by omega)]
  rw [abacistlaw12_LexAgain_6_eq, cond_false, cT (ix hi), Int.toNat_natCast, wa, show l.getD i (0, [], 0, false, [], []) = l.getD i zT from rfl, hat, cF (by rw [decide_eq_true rfl]; rfl), cF (decide_eq_false (by omega)), cT (by simp; omega), Int.toNat_natCast, Int.toNat_natCast, st, decide_eq_true rfl, Bool.not_true, abacistlaw12_LexAgain_8_eq, cond_false, wa]
  by_cases h0 : 0 < i
  · rw [cT (decide_eq_true (show (i : Int) > 0 by omega)), decide_eq_true h0, cT (Nat.ble_eq_true_of_le (by simp only [List.length_cons, List.length_nil]; omega)), n9 _ (by rw [List.length_append]; simp; omega)]; rfl
  · rw [cF (decide_eq_false (show ¬ (i : Int) > 0 by omega)), decide_eq_false h0, n9 _ (by omega)]; rfl
theorem dbl_len : ∀ x : List UInt8, x.length ≤ (dbl x).length
  | [] => Nat.le_refl _
  | c :: t => by
    have := dbl_len t
    by_cases h : c = 34
    · subst h
      show t.length + 1 ≤ (dbl t).length + 1 + 1
      omega
    · rw [dbl_other h, List.length_cons, List.length_cons]; omega
theorem drop_tok {l l' : List Tk} {i : Nat} {t : Tk} (h : l.drop i = t :: l') : i < l.length ∧ l.getD i zT = t ∧ l.drop (i + 1) = l' := by
  have hi : i < l.length := by
    rcases Nat.lt_or_ge i l.length with h' | h'
    · exact h'
    · rw [List.drop_of_length_le h'] at h; cases h
  rw [List.drop_eq_getElem_cons hi] at h
  injection h with h1 h2
  refine ⟨hi, ?_, h2⟩
  rw [List.getD_eq_getElem?_getD, List.getElem?_eq_getElem hi]; exact h1
theorem again_all (s : List UInt8) (hs : s.length ≤ 300) (l : List Tk) (hll : l.length ≤ 1000) {p : Nat} {E : List Et} {l' : List Tk} (hM : Mt s p E l') : ∀ (i : Nat) (g : List UInt8), l.drop i = l' → p ≤ s.length → g.length + 2 * (s.length - p) ≤ 5000 →
    abacistlaw12_LexAgain_1 s l g (p : Int) (i : Int) = abacistlaw12_LexAgain_1 s l (cond (decide (0 < i)) (g ++ 32 :: joinW E) (g ++ joinW E)) (s.length : Int) (l.length : Int) := by
  induction hM with
  | @nil p h =>
    intro i g hd hp hg
    obtain ⟨hi, ht, hr⟩ := drop_tok hd
    have hlast : i + 1 = l.length := by
      have := congrArg List.length hr
      rw [List.length_drop, List.length_nil] at this
      omega
    rw [abacistlaw12_LexAgain_1_eq, cT (decide_eq_true (by omega)), cT (ix hi), cT (ix hi), Int.toNat_natCast, show l.getD i (0, [], 0, false, [], []) = l.getD i zT from rfl, ht]
    show abacistlaw12_LexAgain_2 s l g (p : Int) (i : Int) [] = _
    rw [abacistlaw12_LexAgain_2_eq, again_skip s hs l g [] i p hp, h, again_step s hs l g [] i s.length hi (by rw [ht]) (by simp) rfl (by omega) (by omega), hlast]
    congr 1
    cases decide (0 < i)
    · rfl
    · simp [joinW]
  | @cons p q n k x w r E l'' hq hw h0 hk hle h2 h3 hM ih =>
    intro i g hd hp hg
    obtain ⟨hi, ht, hr⟩ := drop_tok hd
    have hwl : w.length = n := by rw [hw, List.length_take, List.length_drop]; omega
    have hwd : (s.drop q).take w.length = w := by rw [hwl]; exact hw.symm
    have hpq : p ≤ q := by omega
    have step : abacistlaw12_LexAgain_2 s l g (p : Int) (i : Int) w = abacistlaw12_LexAgain_1 s l (cond (decide (0 < i)) (g ++ 32 :: joinW ((k, x, r, w) :: E)) (g ++ joinW ((k, x, r, w) :: E))) (s.length : Int) (l.length : Int) := by
      rw [abacistlaw12_LexAgain_2_eq, again_skip s hs l g w i p hp, ← hq, again_step s hs l g w i q hi (by rw [ht]) (by omega) hwd (by omega) (by omega), hwl]
      have hg' : (cond (decide (0 < i)) (g ++ [32] ++ w) (g ++ w)).length ≤ g.length + 1 + n := by
        cases decide (0 < i) <;> simp only [cond_true, cond_false, List.length_append, List.length_cons, List.length_nil] <;> omega
      rw [ih (i + 1) _ hr hle (by omega), decide_eq_true (Nat.succ_pos i), cond_true]
      congr 1
      cases decide (0 < i)
      · simp [joinW]
      · simp [joinW]
    rw [abacistlaw12_LexAgain_1_eq, cT (decide_eq_true (by omega)), cT (ix hi), cT (ix hi), Int.toNat_natCast, show l.getD i (0, [], 0, false, [], []) = l.getD i zT from rfl, ht]
    by_cases hk2 : k = 2
    · have hx : x.length ≤ 1000 := by
        have e := congrArg List.length (h2 hk2)
        have := dbl_len x
        unfold quoteV at e
        simp only [List.length_cons, List.length_append, List.length_nil] at e
        omega
      rw [cT (decide_eq_true hk2)]
      show (abacistlaw12_quoted x).bind _ = _
      rw [xQuoted x hx, Option.bind_some, h2 hk2]
      exact step
    · rw [cF (decide_eq_false hk2)]
      show abacistlaw12_LexAgain_2 s l g (p : Int) (i : Int) x = _
      rw [h3 hk2]
      exact step
/-! ### the same again -/
theorem Mt_len {s : List UInt8} {p : Nat} {E : List Et} {l : List Tk} (h : Mt s p E l) : p ≤ s.length → l.length + p ≤ s.length + 1 := by
  induction h with
  | nil h => intro hp; simp; omega
  | cons hq hw h0 hk hle h2 h3 hM ih =>
    intro hp
    have := ih hle
    rw [List.length_cons]; omega
def sameTk (a b : Tk) : Prop := a.1 = b.1 ∧ a.2.1 = b.2.1 ∧ a.2.2.2 = b.2.2.2
theorem Mt_same {s a : List UInt8} {p : Nat} {E : List Et} {l : List Tk} (h : Mt s p E l) : ∀ (p' : Nat) (m : List Tk), Mt a p' E m → m.length = l.length ∧ ∀ i, i < l.length → sameTk (m.getD i zT) (l.getD i zT) := by
  induction h with
  | nil h =>
    intro p' m hm
    cases hm with
    | nil h' =>
      refine ⟨rfl, fun i hi => ?_⟩
      cases i with
      | zero => exact ⟨rfl, rfl, rfl⟩
      | succ i => simp at hi
  | cons hq hw h0 hk hle h2 h3 hM ih =>
    intro p' m hm
    cases hm with
    | cons hq' hw' h0' hk' hle' h2' h3' hM' =>
      obtain ⟨e1, e2⟩ := ih _ _ hM'
      refine ⟨by rw [List.length_cons, List.length_cons, e1], fun i hi => ?_⟩
      cases i with
      | zero => exact ⟨rfl, rfl, rfl⟩
      | succ i => exact e2 i (by rw [List.length_cons] at hi; omega)
theorem again_same (l m : List Tk) (hl : l.length ≤ 1000) (hm : m.length = l.length) (hs : ∀ i, i < l.length → sameTk (m.getD i zT) (l.getD i zT)) (hk : abacistlaw12_known = some true) : ∀ (k i : Nat), i + k = l.length → abacistlaw12_LexAgain_5 l m (i : Int) = some true
  | 0, i, h => by rw [abacistlaw12_LexAgain_5_eq, cF (decide_eq_false (by omega)), hk]; rfl
  | k + 1, i, h => by
    have hi : i < l.length := by omega
    have hi' : i < m.length := by omega
    obtain ⟨s1, s2, s3⟩ := hs i hi
    rw [abacistlaw12_LexAgain_5_eq, cT (decide_eq_true (by omega)), cT (ix hi'), cT (ix hi), Int.toNat_natCast, show l.getD i (0, [], 0, false, [], []) = l.getD i zT from rfl, show m.getD i (0, [], 0, false, [], []) = m.getD i zT from rfl]
    rw [cF (by rw [decide_eq_true s1]; rfl), cT (ix hi'), cT (ix hi), cF (by rw [decide_eq_true s2]; rfl), cT (ix hi'), cT (ix hi), s3, decide_eq_true rfl, decide_eq_true rfl, beq_self_eq_true]
    show abacistlaw12_LexAgain_7 l m (i : Int) false = _
    rw [abacistlaw12_LexAgain_7_eq, cond_false, wS (by omega)]
    exact again_same l m hl hm hs hk k (i + 1) (by omega)
theorem again12 (hk : abacistlaw12_known = some true) (s : List UInt8) : abacistlaw12_LexAgain s = some true := by
  rw [abacistlaw12_LexAgain_eq, lex_All_eq]
  by_cases hs : s.length > 300
  · rw [cT (decide_eq_true (by omega)), Option.bind_some, cT (by rfl), hk]; rfl
  rw [cF (decide_eq_false (by omega))]
  obtain ⟨a1, a2⟩ := all_lexS s (by omega) 1000 0 [] (Nat.zero_le _) (by omega) (Nat.le_refl _)
  rw [List.drop_zero] at a1 a2
  have c0 : lex_All_1 s 0 [] = lex_All_1 s ((0 : Nat) : Int) [] := rfl
  cases hE : lexS 1000 s with
  | none =>
    obtain ⟨q, q1, q2⟩ := a2 hE
    rw [c0, q1, Option.bind_some, cT (by rw [decide_eq_false q2]; rfl), hk]; rfl
  | some E =>
    obtain ⟨l, hM, he⟩ := a1 E hE
    rw [List.nil_append] at he
    have hll := Mt_len hM (Nat.zero_le _)
    rw [c0, he, Option.bind_some]
    show abacistlaw12_LexAgain_1 s l [] ((0 : Nat) : Int) ((0 : Nat) : Int) = _
    rw [again_all s (by omega) l (by omega) hM 0 [] (List.drop_zero ..) (Nat.zero_le _) (by simp; omega)]
    rw [decide_eq_false (show ¬ 0 < 0 by omega), cond_false, List.nil_append, abacistlaw12_LexAgain_1_eq, cF (decide_eq_false (by omega))]
    by_cases hb : (joinW E).length > 300
    · rw [cT (decide_eq_true (by omega)), hk]; rfl
    rw [cF (decide_eq_false (by omega)), lex_All_eq, cF (decide_eq_false (by omega))]
    obtain ⟨b1, _⟩ := all_lexS (joinW E) (by omega) 1000 0 [] (Nat.zero_le _) (by omega) (Nat.le_refl _)
    rw [List.drop_zero] at b1
    obtain ⟨m, hM', he'⟩ := b1 E (lexS_again 1000 s E hE)
    rw [List.nil_append] at he'
    have c1 : lex_All_1 (joinW E) 0 [] = lex_All_1 (joinW E) ((0 : Nat) : Int) [] := rfl
    obtain ⟨m1, m2⟩ := Mt_same hM 0 m hM'
    rw [c1, he', Option.bind_some]
    show cond (!decide ((m.length : Int) = (l.length : Int))) (abacistlaw12_LexAgain_3 l m true) (abacistlaw12_LexAgain_3 l m (!decide ((s.length : Int) = (s.length : Int)))) = _
    rw [m1, decide_eq_true rfl, decide_eq_true rfl, Bool.not_true, cond_false, abacistlaw12_LexAgain_3_eq, cond_false]
    exact again_same l m (by omega) m1 m2 hk l.length 0 (Nat.zero_add _)
end Go.Proofs.YtenebjaipfcflaaDoor.D
namespace Go.Proofs.YtenebjaipfcflaaDoor.K
open Go
theorem LexAgain (s : List UInt8) (_ : Wf .str s) : abacistlaw12_LexAgain s = some true := D.again12 (of_depth 600 (by kernel_rfl)) s
end Go.Proofs.YtenebjaipfcflaaDoor.K
