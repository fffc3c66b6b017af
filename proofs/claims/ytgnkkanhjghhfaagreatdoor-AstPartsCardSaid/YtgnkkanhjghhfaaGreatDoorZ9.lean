/- Part 9 of the proof: the machine, the tables and the pure laws that the last text joins. -/
import Derived.Test.YtgnkkanhjghhfaaGreatDoorZ8
import Derived.Test.YtgnkkanhjghhfaaGreatDoorZ6
import Derived.Lib.IndexBytes
import Derived.Test.YtgnkkanhjghhfaaGreatDoorZ4
/- Whole numbers and fractions: plain Lean; the program's and the reference's. -/
set_option linter.unusedVariables false
set_option linter.unusedSimpArgs false
namespace Go.Proofs.YtgnkkanhjghhfaaGreatDoor.D
open Go Go.Proofs.YtgnkkanhjghhfaaGreatDoor.K
open Go.Proofs.YtgnkkanhjghhfaaGreatDoor.P (nat val divmod small val_nat nat_zero nat_eq_nil nat_val_length nat_length_le len_mono val_lt nat_inj sgnv powR powV blen blen_bounds blen_zero nat_one)
open Go.Proofs.YtgnkkanhjghhfaaGreatDoor.Q (ok1 ok3 cmpQ gcdQ powQ bitsQ)
abbrev Wh := Bool × List UInt8
abbrev Rt := Bool × List UInt8 × List UInt8
theorem ok3_of {s : List UInt8} (h : s.length ≤ 1000) : ok3 s = true := Nat.ble_eq_true_of_le h
theorem gcdQ_eq (a b : List UInt8) (ha : a.length ≤ 1000) (hb : b.length ≤ 1000) : gcdQ (a, b) = some (nat (Nat.gcd (val a) (val b))) := by
  unfold gcdQ
  simp only
  rw [ok3_of ha, ok3_of hb]; rfl
theorem xGcd (a b : List UInt8) (ha : a.length ≤ 1000) (hb : b.length ≤ 1000) : divide_Gcd a b = some (nat (Nat.gcd (val a) (val b))) := (top_call ..).trans (gcdQ_eq a b ha hb)
theorem powQ_eq (a : List UInt8) (n : Int) (ha : a.length ≤ 1000) (hn : n ≤ 9000) : powQ (a, n) = some (powR (val a) n) := by
  unfold powQ
  simp only
  rw [ok3_of ha, decide_eq_true hn]; rfl
theorem xPow (a : List UInt8) (n : Int) (ha : a.length ≤ 1000) (hn : n ≤ 9000) : divide_Pow a n = some (powR (val a) n) := (top_call ..).trans (powQ_eq a n ha hn)
theorem nilD (n : Nat) : decide (nat n = []) = decide (n = 0) := decide_eq_decide.2 nat_eq_nil
def mkW (s : Bool) (n : Nat) : Wh := (s && !decide (n = 0), nat n)
theorem xWMake (s : Bool) (m : List UInt8) (h : m.length ≤ 1000000000) : whole_Make s m = some (mkW s (val m)) := by
  rw [whole_Make_eq, xTrim m h, Option.bind_some, mkW, nilD]
  cases s <;> rfl
end Go.Proofs.YtgnkkanhjghhfaaGreatDoor.D
/- Fractions: plain Lean; the program's and the reference's. -/
namespace Go.Proofs.YtgnkkanhjghhfaaGreatDoor.D
open Go Go.Proofs.YtgnkkanhjghhfaaGreatDoor.K
open Go.Proofs.YtgnkkanhjghhfaaGreatDoor.P (nat val divmod small val_nat nat_zero nat_eq_nil nat_val_length nat_length_le len_mono val_lt nat_inj sgnv powR powV blen blen_bounds blen_zero nat_one mod_u64)
def tidy (s : List UInt8) : Bool := decide (s.length ≤ 32) && decide (nat (val s) = s)
def right (r : Rt) : Bool := tidy r.2.1 && (tidy r.2.2 && (!decide (r.2.2 = []) && cond (decide (r.2.1 = [])) (!r.1 && decide (r.2.2 = [1])) (decide (Nat.gcd (val r.2.1) (val r.2.2) = 1))))
theorem val1 : val [1] = 1 := rfl
theorem natOne (n : Nat) : decide (nat n = [1]) = decide (n = 1) := decide_eq_decide.2 (by rw [← nat_one, nat_inj])
theorem tidy_len {s : List UInt8} (h : tidy s = true) : s.length ≤ 32 := by
  unfold tidy at h
  simp at h
  exact h.1
theorem tidy_nat {s : List UInt8} (h : tidy s = true) : nat (val s) = s := by
  unfold tidy at h
  simp at h
  exact h.2
theorem xTidy (s : List UInt8) : rat_tidy s = some (tidy s) := by
  rw [rat_tidy_eq]
  by_cases h : s.length ≤ 32
  · rw [cT (decide_eq_true (by omega)), xTrim s (by omega)]; simp [tidy, h]
  · rw [cF (decide_eq_false (by omega))]; simp [tidy, h]
theorem xRight (r : Rt) : rat_Right r = some (right r) := by
  rw [rat_Right_eq, xTidy, Option.bind_some, xTidy, Option.bind_some]
  simp only [rat_Right_1_eq, right]
  cases h1 : tidy r.2.1 with
  | false => rfl
  | true =>
    cases h2 : tidy r.2.2 with
    | false => rfl
    | true =>
      have l1 := tidy_len h1
      have l2 := tidy_len h2
      rw [xGcd _ _ (by omega) (by omega), Option.bind_some, natOne]
      by_cases h3 : r.2.2 = []
      · simp [h3]
      · by_cases h4 : r.2.1 = []
        · cases h6 : r.1 <;> simp [h3, h4]
        · by_cases h5 : r.2.2 = [1]
          · simp [h5, h4, val1]
          · simp [h3, h4, h5]
def well (r : Rt) : Rt := cond (right r) r (false, [], [1])
structure Fm (s : Bool) (n d : Nat) : Prop where
  nl : (nat n).length ≤ 32
  dl : (nat d).length ≤ 32
  pos : 0 < d
  co : Nat.gcd n d = 1
  z : n = 0 → s = false
theorem right_form {r : Rt} (h : right r = true) : ∃ s n d, r = (s, nat n, nat d) ∧ Fm s n d := by
  obtain ⟨s, a, b⟩ := r
  unfold right at h
  simp only [Bool.and_eq_true] at h
  obtain ⟨h1, h2, h3, h4⟩ := h
  have e1 := tidy_nat h1
  have e2 := tidy_nat h2
  have hb : b ≠ [] := by simpa using h3
  have hd : val b ≠ 0 := fun e => hb (by rw [← e2, e, nat_zero])
  refine ⟨s, val a, val b, by rw [e1, e2], ⟨by rw [e1]; exact tidy_len h1, by rw [e2]; exact tidy_len h2, by omega, ?_, ?_⟩⟩
  · by_cases h0 : a = []
    · rw [decide_eq_true h0, cond_true] at h4
      simp only [Bool.and_eq_true, decide_eq_true_eq] at h4
      rw [h0, h4.2]; rfl
    · rw [decide_eq_false h0, cond_false] at h4
      exact of_decide_eq_true h4
  · intro hz
    have h0 : a = [] := by rw [← e1, hz, nat_zero]
    rw [decide_eq_true h0, cond_true] at h4
    simp only [Bool.and_eq_true, Bool.not_eq_true'] at h4
    exact h4.1
theorem tidy_of {n : Nat} (h : (nat n).length ≤ 32) : tidy (nat n) = true := by
  unfold tidy
  rw [val_nat, decide_eq_true h, decide_eq_true rfl]; rfl
theorem Fm.right {s : Bool} {n d : Nat} (h : Fm s n d) : right (s, nat n, nat d) = true := by
  unfold D.right
  have hd : decide (nat d = []) = false := decide_eq_false fun e => by have := nat_eq_nil.1 e; have := h.pos; omega
  simp only [tidy_of h.nl, tidy_of h.dl, hd, nilD, natOne, val_nat]
  by_cases h0 : n = 0
  · have hs := h.z h0
    have hc := h.co
    rw [h0, Nat.gcd_zero_left] at hc
    rw [decide_eq_true h0, hs, decide_eq_true hc]; rfl
  · rw [decide_eq_false h0, decide_eq_true h.co]; rfl
theorem Fm.zero : Fm false 0 1 := ⟨by rw [nat_zero]; simp, by rw [nat_one]; simp, by omega, rfl, fun _ => rfl⟩
theorem well_form (r : Rt) : ∃ s n d, well r = (s, nat n, nat d) ∧ Fm s n d := by
  unfold well
  cases h : right r with
  | true => exact right_form h
  | false => exact ⟨false, 0, 1, by rw [nat_zero, nat_one]; rfl, .zero⟩
theorem Fm.well {s : Bool} {n d : Nat} (h : Fm s n d) : well (s, nat n, nat d) = (s, nat n, nat d) := by unfold D.well; rw [h.right]; rfl
theorem pow_half {k b n : Nat} (h : k < b) (h2 : 2 ^ b ≤ 2 * n) : 2 ^ k ≤ n := by
  have h3 : 2 ^ (k + 1) ≤ 2 ^ b := Nat.pow_le_pow_right (by decide) h
  rw [Nat.pow_succ] at h3
  generalize 2 ^ k = X at h3 ⊢
  omega
def ofI (n : Int) : Rt := (decide (n < 0), nat n.natAbs, [1])
theorem u64_neg {n : Int} (h : n < 0) (h0 : -9223372036854775808 ≤ n) : IntKind.u64.wrap (0 - IntKind.u64.wrap n) = ((n.natAbs : Nat) : Int) := by rw [mod_u64, mod_u64]; omega
theorem u64_pos {n : Int} (h : ¬ n < 0) (h1 : n ≤ 9223372036854775807) : IntKind.u64.wrap n = ((n.natAbs : Nat) : Int) := by rw [mod_u64]; omega
theorem abs_len (n : Int) (h0 : -9223372036854775808 ≤ n) (h1 : n ≤ 9223372036854775807) : (nat n.natAbs).length ≤ 8 := nat_length_le (by show n.natAbs < 18446744073709551616; omega)
theorem xWOf (n : Int) (h0 : -9223372036854775808 ≤ n) (h1 : n ≤ 9223372036854775807) : whole_Of n = some (decide (n < 0), nat n.natAbs) := by
  have hl := abs_len n h0 h1
  rw [whole_Of_eq]
  by_cases h : n < 0
  · rw [cT (decide_eq_true h), u64_neg h h0, xOf _ (by omega), Option.bind_some, xWMake _ _ (by omega), Option.bind_some, val_nat, mkW, decide_eq_true h, decide_eq_false (by omega)]; rfl
  · rw [cF (decide_eq_false h), u64_pos h h1, xOf _ (by omega), Option.bind_some, xWMake _ _ (by omega), Option.bind_some, val_nat, mkW, decide_eq_false h]; rfl
theorem xROf (n : Int) (h0 : -9223372036854775808 ≤ n) (h1 : n ≤ 9223372036854775807) : rat_Of n = some (ofI n) := by rw [rat_Of_eq, xWOf n h0 h1]; rfl
theorem Fm.of {n : Int} (h0 : -9223372036854775808 ≤ n) (h1 : n ≤ 9223372036854775807) : Fm (decide (n < 0)) n.natAbs 1 := by
  have := abs_len n h0 h1
  exact ⟨by omega, by rw [nat_one]; simp, by omega, Nat.gcd_one_right _, fun h => decide_eq_false (by omega)⟩
def negR (r : Rt) : Rt := (!(well r).1 && !decide ((well r).2.1 = []), (well r).2)
theorem Fm.neg {s : Bool} {n d : Nat} (h : Fm s n d) : negR (s, nat n, nat d) = (!s && !decide (n = 0), nat n, nat d) := by unfold negR; rw [h.well, nilD]
end Go.Proofs.YtgnkkanhjghhfaaGreatDoor.D
/- Numbers as texts: plain Lean; the program's and the reference's. -/
namespace Go.Proofs.YtgnkkanhjghhfaaGreatDoor.D
open Go Go.Proofs.YtgnkkanhjghhfaaGreatDoor.K
open Go.Proofs.YtgnkkanhjghhfaaGreatDoor.P (nat val divmod small val_nat nat_zero nat_eq_nil nat_val_length nat_length_le len_mono val_lt nat_inj sgnv powR powV nat_one wS nat_ten_len inC dv good dig dig_le dv_nil dv_snoc dv_append dv_cons dv_lt decT decT_good decT_dv decT_ne decT_len)
def pos (c : UInt8) : List UInt8 → Option Nat
  | [] => none
  | b :: s => if b = c then some 0 else (pos c s).map (· + 1)
theorem getD_drop {s : List UInt8} {i : Nat} (h : i < s.length) : s.drop i = s.getD i 0 :: s.drop (i + 1) := by rw [List.drop_eq_getElem_cons h, good_get h]
theorem pow_small {b : Nat} (hb : b < 256) (n : Nat) : (nat (b ^ n)).length ≤ n + 1 := by
  rcases Nat.eq_zero_or_pos n with h | h
  · subst h; rw [Nat.pow_zero, nat_one]; simp
  · exact Nat.le_trans (nat_length_le (Nat.pow_lt_pow_left hb (by omega))) (by omega)
theorem powR_small {b n : Nat} (hb : 2 ≤ b) (hb2 : b < 256) (hn : n ≤ 1000) : powR b (n : Int) = (nat (b ^ n), 0) := by
  unfold powR
  rw [if_neg (by omega)]
  by_cases h : n = 0
  · subst h; rw [if_pos (by rfl), Nat.pow_zero, nat_one]
  · have := pow_small hb2 n
    rw [if_neg (by omega), if_neg (by omega), powV, Int.toNat_natCast, if_neg (by omega)]
theorem xPower {b n : Nat} (hb : 2 ≤ b) (hb2 : b < 256) (hn : n ≤ 1000) : numtext_power (b : Int) (n : Int) = some (nat (b ^ n)) := by
  have hl : (nat b).length ≤ 1 := nat_length_le (by omega)
  rw [numtext_power_eq, xOf _ (by omega), Option.bind_some, xPow _ _ (by omega) (by omega), Option.bind_some, val_nat, powR_small hb hb2 hn]; rfl
theorem ord_dvd (b : Nat) (hb : 2 ≤ b) : ∀ (m : Nat), m ≠ 0 → b ^ ordB b m ∣ m := by
  intro m
  induction m using Nat.strongRecOn with
  | _ m ih =>
    intro h0
    by_cases h : m % b = 0
    · have hd : m / b < m := Nat.div_lt_self (by omega) (by omega)
      have hm : m = b * (m / b) := by have := Nat.div_add_mod m b; omega
      have h1 : m / b ≠ 0 := fun e => by rw [e, Nat.mul_zero] at hm; exact h0 hm
      rw [ord_go b m h0 hb h, Nat.pow_succ, Nat.mul_comm]
      conv => rhs; rw [hm]
      exact Nat.mul_dvd_mul_left b (ih _ hd h1)
    · rw [ord_stop b m (.inr h), Nat.pow_zero]; exact Nat.one_dvd m
theorem ord_le (b m : Nat) (hb : 2 ≤ b) (h0 : m ≠ 0) (hl : (nat m).length ≤ 32) : ordB b m ≤ 256 := by
  have h1 := Nat.le_of_dvd (by omega) (ord_dvd b hb m h0)
  have h2 : 2 ^ ordB b m ≤ b ^ ordB b m := Nat.pow_le_pow_left hb _
  have h3 := val_lt (nat m)
  rw [val_nat, pow8] at h3
  have h4 : 2 ^ (8 * (nat m).length) ≤ 2 ^ 256 := Nat.pow_le_pow_right (by decide) (by omega)
  rcases Nat.lt_or_ge 256 (ordB b m) with h | h
  · have h5 := pow_half h (Nat.le_trans (Nat.le_trans h2 h1) (show m ≤ 2 * m by omega))
    generalize (2 : Nat) ^ 256 = X at h4 h5
    have h6 : m < X := by omega
    omega
  · exact h
def endsN (d : Nat) : Nat × Bool := if 2 ^ ordB 2 d * 5 ^ ordB 5 d = d then (max (ordB 2 d) (ordB 5 d), true) else (0, false)
theorem xEnds {r : Rt} {s : Bool} {n d : Nat} (e : well r = (s, nat n, nat d)) (f : Fm s n d) : numtext_Ends r = some (((endsN d).1 : Int), (endsN d).2) := by
  have h0 := f.pos
  have hl := f.dl
  have h2 := ord_le 2 d (by omega) (by omega) hl
  have h5 := ord_le 5 d (by omega) (by omega) hl
  have hw : numtext_well r = some (well r) := by
    rw [numtext_well_eq, xRight, Option.bind_some, xROf 0 (by omega) (by omega), Option.bind_some, well, show ofI 0 = (false, [], [1]) by unfold ofI; rw [Int.natAbs_zero, nat_zero]; rfl]
    cases right r <;> rfl
  have l2 := pow_small (b := 2) (by omega) (ordB 2 d)
  have l5 := pow_small (b := 5) (by omega) (ordB 5 d)
  rw [numtext_Ends_eq, hw, Option.bind_some, e, xTwos _ (by simp only; omega), Option.bind_some]
  simp only [val_nat]
  rw [show numtext_power 2 ((ordB 2 d : Nat) : Int) = _ from xPower (b := 2) (by omega) (by omega) (by omega), Option.bind_some, show numtext_power 5 ((ordB 5 d : Nat) : Int) = _ from xPower (b := 5) (by omega) (by omega) (by omega), Option.bind_some, xMul _ _ (by omega) (by omega), Option.bind_some, val_nat, val_nat, endsN]
  by_cases h : 2 ^ ordB 2 d * 5 ^ ordB 5 d = d
  · rw [h, decide_eq_true rfl, if_pos rfl]; simp only [Bool.not_true, cond_false]; congr 2; omega
  · rw [decide_eq_false (fun e => h (nat_inj.1 e)), if_neg h]; rfl
end Go.Proofs.YtgnkkanhjghhfaaGreatDoor.D
/- Numbers in digits, and as texts: plain Lean; the program's and the reference's. -/
namespace Go.Proofs.YtgnkkanhjghhfaaGreatDoor.D
open Go Go.Proofs.YtgnkkanhjghhfaaGreatDoor.K
open Go.Proofs.YtgnkkanhjghhfaaGreatDoor.P (nat val divmod small val_nat nat_zero nat_eq_nil nat_val_length nat_length_le len_mono val_lt nat_inj sgnv powR powV nat_one wS wA wD nat_ten_len inC ten ten_len decT decT_len decT_ne decT_good decT_dv dv good dig dig_le dv_nil dv_snoc dv_append dv_cons dv_lt)
def ptN (n : Nat) (s : List UInt8) : List UInt8 :=
  if n = 0 then s else (List.replicate (n + 1 - s.length) 48 ++ s).take ((List.replicate (n + 1 - s.length) 48 ++ s).length - n) ++ [46] ++ (List.replicate (n + 1 - s.length) 48 ++ s).drop ((List.replicate (n + 1 - s.length) 48 ++ s).length - n)
def textF (s : Bool) (n d : Nat) : List UInt8 :=
  cond s [45] [] ++ cond ((endsN d).2 && decide ((endsN d).1 ≤ 20)) (ptN (endsN d).1 (decT (n * 10 ^ (endsN d).1 / d))) (decT n ++ [47] ++ decT d)
end Go.Proofs.YtgnkkanhjghhfaaGreatDoor.D
/- Texts as numbers: plain Lean; the program's and the reference's; the two laws. -/
namespace Go.Proofs.YtgnkkanhjghhfaaGreatDoor.D
open Go Go.Proofs.YtgnkkanhjghhfaaGreatDoor.K
open Go.Proofs.YtgnkkanhjghhfaaGreatDoor.P (nat val divmod small val_nat nat_zero nat_eq_nil nat_val_length nat_length_le len_mono val_lt nat_inj sgnv powR powV nat_one wS wA wD nat_ten_len inC ten ten_len decT decT_len decT_ne decT_good decT_dv dv_lt dv good dig dig_le dv_nil dv_snoc dv_append dv_cons)
def z0 : Rt := (false, [], [])
end Go.Proofs.YtgnkkanhjghhfaaGreatDoor.D
namespace Go.Proofs.YtgnkkanhjghhfaaGreatDoor.K
open Go
end Go.Proofs.YtgnkkanhjghhfaaGreatDoor.K
/- Values: plain Lean; the program's and the reference's. -/
namespace Go.Proofs.YtgnkkanhjghhfaaGreatDoor.D
open Go Go.Proofs.YtgnkkanhjghhfaaGreatDoor.K
open Go.Proofs.YtgnkkanhjghhfaaGreatDoor.P (nat val val_nat nat_zero nat_eq_nil nat_inj nat_one wS inC dv good dig dig_le decT decT_good decT_ne)
abbrev Vl := Int × (Bool × List UInt8 × List UInt8) × List UInt8 × Bool × Int
def blank : Vl := (0, (false, [], []), [], false, 0)
def pl1 (b : UInt8) : Bool := decide (32 ≤ b.toNat) && decide (b.toNat ≤ 126)
def plainV (s : List UInt8) : Bool := s.all pl1 && decide (s.length ≤ 200)
theorem all_drop {p : UInt8 → Bool} {s : List UInt8} {i : Nat} (h : i < s.length) : (s.drop i).all p = (p (s.getD i 0) && (s.drop (i + 1)).all p) := by rw [getD_drop h, List.all_cons]
theorem xPlain1 (s : List UInt8) (hs : s.length ≤ 9223372036854775807) : ∀ (m i : Nat), i + m = s.length → value_plain_1 s (s.map fun b => (b.toNat : Int)) ((s.map fun b => (b.toNat : Int)).length : Int) (i : Int) = some ((s.drop i).all pl1 && decide (s.length ≤ 200))
  | 0, i, h => by
    rw [value_plain_1_eq, cF (decide_eq_false (by rw [List.length_map]; omega)), List.drop_of_length_le (by omega)]
    exact congrArg some (decide_eq_decide.2 (by omega))
  | m + 1, i, h => by
    have hi : i < s.length := by omega
    have hg : (s.map fun b => (b.toNat : Int)).getD (i : Int).toNat 0 = ((s.getD i 0).toNat : Int) := by simp [List.getD, hi]
    have next : value_plain_2 s (s.map fun b => (b.toNat : Int)) ((s.map fun b => (b.toNat : Int)).length : Int) (i : Int) false = some ((s.drop (i + 1)).all pl1 && decide (s.length ≤ 200)) := by
      rw [value_plain_2_eq, cond_false, wS (by omega)]; exact xPlain1 s hs m (i + 1) (by omega)
    have stop : value_plain_2 s (s.map fun b => (b.toNat : Int)) ((s.map fun b => (b.toNat : Int)).length : Int) (i : Int) true = some false := by rw [value_plain_2_eq, cond_true]
    rw [value_plain_1_eq, cT (decide_eq_true (by rw [List.length_map]; omega)), cT (by rw [List.length_map]; exact ix hi), hg, all_drop hi]
    generalize s.getD i 0 = c
    by_cases h1 : c.toNat < 32
    · rw [cT (decide_eq_true (by omega)), stop, show pl1 c = false by unfold pl1; simp; omega]; rfl
    · rw [cF (decide_eq_false (by omega))]
      by_cases h2 : c.toNat > 126
      · rw [decide_eq_true (show (c.toNat : Int) > 126 by omega), stop, show pl1 c = false by unfold pl1; simp; omega]; rfl
      · rw [decide_eq_false (show ¬ (c.toNat : Int) > 126 by omega), next, show pl1 c = true by unfold pl1; simp; omega]; rfl
theorem xPlain (s : List UInt8) (hs : s.length ≤ 9223372036854775807) : value_plain s = some (plainV s) := (value_plain_eq s).trans (xPlain1 s hs s.length 0 (Nat.zero_add _))
def namesL : List (List UInt8) := [[], [35, 68, 73, 86, 47, 48, 33], [35, 86, 65, 76, 85, 69, 33], [35, 82, 69, 70, 33], [35, 78, 65, 77, 69, 63], [35, 78, 85, 77, 33], [35, 78, 47, 65], [35, 67, 73, 82, 67, 33]]
def isF (n : Int) : Bool := decide (1 ≤ n) && decide (n ≤ 7)
def nameV (n : Int) : List UInt8 := cond (isF n) (namesL.getD n.toNat []) []
theorem isF_cases {n : Int} (h : isF n = true) : n = 1 ∨ n = 2 ∨ n = 3 ∨ n = 4 ∨ n = 5 ∨ n = 6 ∨ n = 7 := by
  unfold isF at h
  simp at h
  omega
theorem xName (n : Int) : value_Name n = some (nameV n) := by
  rw [value_Name_eq, value_Name_1_eq, nameV]
  by_cases h0 : n < 0
  · rw [cT (decide_eq_true h0), value_Name_2_eq, show isF n = false by unfold isF; simp; omega]; rfl
  · rw [cF (decide_eq_false h0), value_Name_2_eq]
    by_cases h8 : n ≥ 8
    · rw [cT (decide_eq_true h8), show isF n = false by unfold isF; simp; omega]; rfl
    · rw [cF (decide_eq_false h8), cT (by simp; omega)]
      by_cases hz : n = 0
      · subst hz; rfl
      · rw [show isF n = true by unfold isF; simp; omega]; rfl
def vFault (n : Int) : Vl := (4, (false, [], []), [], false, cond (isF n) n 2)
def vText (s : List UInt8) : Vl := cond (plainV s) (2, (false, [], []), s, false, 0) (vFault 2)
theorem nameV_nil (n : Int) : decide (nameV n = []) = !isF n := by
  unfold nameV
  cases hf : isF n with
  | true => rcases isF_cases hf with h | h | h | h | h | h | h <;> subst h <;> rfl
  | false => rfl
theorem xvFault (n : Int) : value_Fault n = some (vFault n) := by
  rw [value_Fault_eq, xName, Option.bind_some, nameV_nil, vFault]
  simp only [value_Fault_1_eq]
  cases isF n <;> rfl
theorem xvText (s : List UInt8) (hs : s.length ≤ 9223372036854775807) : value_Text s = some (vText s) := by
  rw [value_Text_eq, xPlain s hs, Option.bind_some, xvFault, Option.bind_some, vText]
  cases plainV s <;> rfl
def tTRUE : List UInt8 := [84, 82, 85, 69]
def tFALSE : List UInt8 := [70, 65, 76, 83, 69]
end Go.Proofs.YtgnkkanhjghhfaaGreatDoor.D
/- References: plain Lean; the program's and the reference's; moves and shifts. -/
namespace Go.Proofs.YtgnkkanhjghhfaaGreatDoor.F
open Go Go.Proofs.YtgnkkanhjghhfaaGreatDoor.K
abbrev Rf := List UInt8 × Int × Int × Bool × Bool
theorem wS {i : Nat} (h : i + 1 ≤ 9223372036854775807) : IntKind.i64.wrap ((i : Int) + 1) = ((i + 1 : Nat) : Int) := wrap64 (by omega) (by omega)
theorem getD_drop {s : List UInt8} {i : Nat} (h : i < s.length) : s.drop i = s.getD i 0 :: s.drop (i + 1) := by
  rw [List.drop_eq_getElem_cons h, List.getD_eq_getElem?_getD, List.getElem?_eq_getElem h]; rfl
theorem all_drop {p : UInt8 → Bool} {s : List UInt8} {i : Nat} (h : i < s.length) : (s.drop i).all p = (p (s.getD i 0) && (s.drop (i + 1)).all p) := by rw [getD_drop h, List.all_cons]
theorem map_get {s : List UInt8} {i : Nat} (h : i < s.length) : (s.map fun b => (b.toNat : Int)).getD (i : Int).toNat 0 = ((s.getD i 0).toNat : Int) := by simp [List.getD, h]
def lt (b : UInt8) : Bool := (decide (65 ≤ b.toNat) && decide (b.toNat ≤ 90)) || (decide (97 ≤ b.toNat) && decide (b.toNat ≤ 122))
def dgt (b : UInt8) : Bool := decide (48 ≤ b.toNat) && decide (b.toNat ≤ 57)
def cap (b : UInt8) : Bool := decide (65 ≤ b.toNat) && decide (b.toNat ≤ 90)
theorem ge_d (b : UInt8) (n : Nat) : decide ((b.toNat : Int) ≥ (n : Int)) = decide (n ≤ b.toNat) := decide_eq_decide.2 (by omega)
theorem le_d (b : UInt8) (n : Nat) : decide ((b.toNat : Int) ≤ (n : Int)) = decide (b.toNat ≤ n) := decide_eq_decide.2 (by omega)
theorem xLt (b : UInt8) : ref_letter (b.toNat : Int) = some (lt b) := by
  rw [ref_letter_eq, lt, show decide ((b.toNat : Int) ≥ 65) = _ from ge_d b 65, show decide ((b.toNat : Int) ≤ 90) = _ from le_d b 90, show decide ((b.toNat : Int) ≥ 97) = _ from ge_d b 97, show decide ((b.toNat : Int) ≤ 122) = _ from le_d b 122]
  cases decide (65 ≤ b.toNat) <;> cases decide (b.toNat ≤ 90) <;> cases decide (97 ≤ b.toNat) <;> cases decide (b.toNat ≤ 122) <;> rfl
theorem xDgt (b : UInt8) : ref_digit (b.toNat : Int) = some (dgt b) := by
  rw [ref_digit_eq, dgt, show decide ((b.toNat : Int) ≥ 48) = _ from ge_d b 48, show decide ((b.toNat : Int) ≤ 57) = _ from le_d b 57]
  cases decide (48 ≤ b.toNat) <;> rfl
def up (b : UInt8) : UInt8 := if 97 ≤ b.toNat ∧ b.toNat ≤ 122 then UInt8.ofNat (b.toNat - 32) else b
theorem up_small {b : UInt8} (h : 97 ≤ b.toNat ∧ b.toNat ≤ 122) : (up b).toNat = b.toNat - 32 := by
  rw [up, if_pos h]
  exact UInt8.toNat_ofNat_of_lt' (by show _ < 256; omega)
theorem up_other {b : UInt8} (h : ¬ (97 ≤ b.toNat ∧ b.toNat ≤ 122)) : up b = b := by rw [up, if_neg h]
theorem up_lt (b : UInt8) : lt (up b) = cap (up b) := by
  unfold lt cap
  by_cases h : 97 ≤ b.toNat ∧ b.toNat ≤ 122
  · have := up_small h
    rw [decide_eq_false (show ¬ 97 ≤ (up b).toNat by omega)]; simp
  · rw [up_other h]
    have : (decide (97 ≤ b.toNat) && decide (b.toNat ≤ 122)) = false := by simp; omega
    rw [this, Bool.or_false]
theorem bytes_back (t : List UInt8) : bytesOf (t.map fun b => ((up b).toNat : Int)) = t.map up := by
  unfold bytesOf
  rw [List.map_map]
  refine List.map_congr_left fun b _ => ?_
  simp
theorem mid_get (A : List Int) (x : Int) (R : List Int) : (A ++ x :: R).getD A.length 0 = x := by simp [List.getD]
theorem mid_set (A : List Int) (x y : Int) (R : List Int) : (A ++ x :: R).set A.length y = A ++ y :: R := by simp
theorem inA {A R : List Int} {x : Int} : (decide (0 ≤ (A.length : Int)) && decide ((A.length : Int) < ((A ++ x :: R).length : Int))) = true := by simp; omega
theorem xCap1 : ∀ (t : List UInt8) (A : List Int) (n : Nat), n = A.length + t.length → n ≤ 9223372036854775807 → ref_capital_1 (n : Int) (A.length : Int) (A ++ t.map fun b => (b.toNat : Int)) = some (bytesOf (A ++ t.map fun b => ((up b).toNat : Int)))
  | [], A, n, hn, _ => by
    rw [ref_capital_1_eq, cF (decide_eq_false (by simp at hn; omega))]; rfl
  | c :: t, A, n, hn, hb => by
    simp only [List.length_cons] at hn
    have h3 : ∀ y : Int, ref_capital_3 (n : Int) (A.length : Int) (A ++ y :: t.map fun b => (b.toNat : Int)) = some (bytesOf ((A ++ [y]) ++ t.map fun b => ((up b).toNat : Int))) := by
      intro y
      have := xCap1 t (A ++ [y]) n (by simp; omega) hb
      rw [ref_capital_3_eq, wS (by omega)]
      simpa using this
    rw [ref_capital_1_eq, cT (decide_eq_true (by omega)), List.map_cons, cT inA, Int.toNat_natCast, mid_get, show decide ((c.toNat : Int) ≥ 97) = _ from ge_d c 97, show decide ((c.toNat : Int) ≤ 122) = _ from le_d c 122]
    simp only [ref_capital_2_eq]
    by_cases h : 97 ≤ c.toNat ∧ c.toNat ≤ 122
    · have e : IntKind.u8.wrap (IntKind.u8.wrap ((c.toNat : Int) - 97) + 65) = ((up c).toNat : Int) := by
        rw [up_small h, wrapU8 (n := (c.toNat : Int) - 97) (by omega) (by omega), wrapU8 (by omega) (by omega)]; omega
      rw [decide_eq_true h.1, decide_eq_true h.2, cond_true, cond_true, cT inA, Int.toNat_natCast, mid_set, e, h3]
      simp
    · have : up c = c := up_other h
      rw [List.map_cons, this]
      by_cases h1 : 97 ≤ c.toNat
      · rw [decide_eq_true h1, decide_eq_false (show ¬ c.toNat ≤ 122 by omega), cond_true, cond_false, h3]; simp
      · rw [decide_eq_false h1, cond_false, cond_false, h3]; simp
theorem xCapital (s : List UInt8) (hs : s.length ≤ 9223372036854775807) : ref_capital s = some (s.map up) := by
  rw [ref_capital_eq]
  have := xCap1 s [] s.length (by simp) hs
  rw [List.nil_append, List.nil_append, bytes_back] at this
  rw [List.length_map]
  exact this
def lead (p : UInt8 → Bool) (s : List UInt8) : Nat := (s.takeWhile p).length
theorem lead_drop {p : UInt8 → Bool} {s : List UInt8} {i : Nat} (h : i < s.length) : lead p (s.drop i) = if p (s.getD i 0) = true then lead p (s.drop (i + 1)) + 1 else 0 := by
  unfold lead
  rw [getD_drop h, List.takeWhile_cons]
  split <;> simp
def addrR (s : List UInt8) : Bool := (s.drop (lead cap s)).all dgt && (decide (1 ≤ lead cap s) && (decide (lead cap s ≤ 2) && (decide (lead cap s < s.length) && decide (s.length ≤ lead cap s + 3))))
theorem xAddr3 (s : List UInt8) (k : Nat) (hk : k ≤ s.length) (hs : s.length ≤ 1000000) : ∀ (m i : Nat), i + m = (s.drop k).length → ref_addressed_3 s (k : Int) ((s.drop k).map fun b => (b.toNat : Int)) (((s.drop k).map fun b => (b.toNat : Int)).length : Int) (i : Int) = some (((s.drop k).drop i).all dgt && (decide (1 ≤ k) && (decide (k ≤ 2) && (decide (k < s.length) && decide (s.length ≤ k + 3)))))
  | 0, i, h => by
    rw [ref_addressed_3_eq, cF (decide_eq_false (by rw [List.length_map]; omega)), List.drop_of_length_le (by omega), wrap64 (by omega) (by omega), show decide ((k : Int) ≥ 1) = decide (1 ≤ k) from decide_eq_decide.2 (by omega), show decide ((k : Int) ≤ 2) = decide (k ≤ 2) from decide_eq_decide.2 (by omega), show decide ((s.length : Int) > (k : Int)) = decide (k < s.length) from decide_eq_decide.2 (by omega), show decide ((s.length : Int) ≤ (k : Int) + 3) = decide (s.length ≤ k + 3) from decide_eq_decide.2 (by omega)]
    cases decide (1 ≤ k) <;> cases decide (k ≤ 2) <;> cases decide (k < s.length) <;> rfl
  | m + 1, i, h => by
    have hi : i < (s.drop k).length := by omega
    have hg : ((s.drop k).map fun b => (b.toNat : Int)).getD (i : Int).toNat 0 = (((s.drop k).getD i 0).toNat : Int) := map_get hi
    have hl : (s.drop k).length ≤ s.length := by simp
    rw [ref_addressed_3_eq, cT (decide_eq_true (by rw [List.length_map]; omega)), cT (by rw [List.length_map]; exact ix hi), hg, xDgt, Option.bind_some, all_drop hi]
    cases dgt ((s.drop k).getD i 0) with
    | false => rfl
    | true =>
      have := xAddr3 s k hk hs m (i + 1) (by omega)
      rw [show (!true) = false from rfl, cond_false, wS (by omega), this]; rfl
theorem xAddr1 (s : List UInt8) (hs : s.length ≤ 1000000) : ∀ (m i : Nat), i + m = s.length → ref_addressed_1 s (i : Int) = some ((s.drop (i + lead lt (s.drop i))).all dgt && (decide (1 ≤ i + lead lt (s.drop i)) && (decide (i + lead lt (s.drop i) ≤ 2) && (decide (i + lead lt (s.drop i) < s.length) && decide (s.length ≤ i + lead lt (s.drop i) + 3)))))
  | m, i, h => by
    have stop : lead lt (s.drop i) = 0 → i ≤ s.length → ref_addressed_2 s (i : Int) false = some ((s.drop (i + lead lt (s.drop i))).all dgt && (decide (1 ≤ i + lead lt (s.drop i)) && (decide (i + lead lt (s.drop i) ≤ 2) && (decide (i + lead lt (s.drop i) < s.length) && decide (s.length ≤ i + lead lt (s.drop i) + 3))))) := by
      intro h0 hi
      have := xAddr3 s i hi hs (s.drop i).length 0 (Nat.zero_add _)
      rw [List.drop_zero] at this
      rw [ref_addressed_2_eq, cond_false, cT (by simp; omega), Int.toNat_natCast, h0, Nat.add_zero]
      exact this
    rw [ref_addressed_1_eq]
    match m with
    | 0 =>
      rw [cF (decide_eq_false (by omega))]
      exact stop (by rw [List.drop_of_length_le (by omega)]; rfl) (by omega)
    | m + 1 =>
      have hi : i < s.length := by omega
      rw [cT (decide_eq_true (by omega)), cT (ix hi), Int.toNat_natCast, xLt, Option.bind_some]
      have hl := lead_drop (p := lt) hi
      cases hb : lt (s.getD i 0) with
      | false =>
        rw [hb] at hl
        exact stop (by rw [hl]; rfl) (by omega)
      | true =>
        rw [hb, if_pos rfl] at hl
        rw [ref_addressed_2_eq, cond_true, wS (by omega), xAddr1 s hs m (i + 1) (by omega), hl, show i + (lead lt (s.drop (i + 1)) + 1) = i + 1 + lead lt (s.drop (i + 1)) by omega]
theorem lead_up (s : List UInt8) : lead lt (s.map up) = lead cap (s.map up) := by
  unfold lead
  induction s with
  | nil => rfl
  | cons b s ih => simp only [List.map_cons, List.takeWhile_cons, up_lt]; split <;> simp [ih]
theorem xAddr (s : List UInt8) (hs : s.length ≤ 1000000) : ref_addressed (s.map up) = some (addrR (s.map up)) := by
  rw [ref_addressed_eq]
  have := xAddr1 (s.map up) (by simpa using hs) (s.map up).length 0 (Nat.zero_add _)
  simp only [List.drop_zero, Nat.zero_add] at this
  rw [lead_up] at this
  exact this
def okc (b : UInt8) : Bool := lt b || (dgt b || decide (b = 95))
def tTRUE : List UInt8 := [84, 82, 85, 69]
def tFALSE : List UInt8 := [70, 65, 76, 83, 69]
def namedR (s : List UInt8) : Bool := !decide (s = []) && (decide (s.length ≤ 12) && (lt (s.getD 0 0) && (s.all okc && (!decide (s.map up = tTRUE) && (!decide (s.map up = tFALSE) && !addrR (s.map up))))))
theorem eq95 (b : UInt8) : decide ((b.toNat : Int) = 95) = decide (b = 95) := decide_eq_decide.2 ⟨fun h => UInt8.toNat_inj.1 (by show b.toNat = 95; omega), fun h => by subst h; rfl⟩
theorem xNamed2 (s : List UInt8) (hs : s.length ≤ 12) : ∀ (m i : Nat), i + m = s.length → ref_Named_2 s (s.map fun b => (b.toNat : Int)) ((s.map fun b => (b.toNat : Int)).length : Int) (i : Int) = some ((s.drop i).all okc && (!decide (s.map up = tTRUE) && (!decide (s.map up = tFALSE) && !addrR (s.map up))))
  | 0, i, h => by
    rw [ref_Named_2_eq, cF (decide_eq_false (by rw [List.length_map]; omega)), List.drop_of_length_le (by omega), xCapital s (by omega), Option.bind_some]
    simp only [ref_Named_4_eq, xAddr s (by omega), Option.bind_some]
    show cond (decide (s.map up = tTRUE)) _ (cond (decide (s.map up = tFALSE)) _ _) = _
    cases decide (s.map up = tTRUE) <;> cases decide (s.map up = tFALSE) <;> rfl
  | m + 1, i, h => by
    have hi : i < s.length := by omega
    have hg : (s.map fun b => (b.toNat : Int)).getD (i : Int).toNat 0 = ((s.getD i 0).toNat : Int) := by simp [List.getD, hi]
    have next := xNamed2 s hs m (i + 1) (by omega)
    rw [ref_Named_2_eq, cT (decide_eq_true (by rw [List.length_map]; omega)), cT (by rw [List.length_map]; exact ix hi), hg, xLt, Option.bind_some, xDgt, Option.bind_some, eq95, all_drop hi, okc]
    simp only [ref_Named_3_eq, wS (show i + 1 ≤ 9223372036854775807 by omega), next]
    cases lt (s.getD i 0) <;> cases dgt (s.getD i 0) <;> cases decide (s.getD i 0 = 95) <;> rfl
theorem xNamedR (s : List UInt8) : ref_Named s = some (namedR s) := by
  rw [ref_Named_eq, namedR]
  simp only [ref_Named_1_eq]
  by_cases h0 : s = []
  · rw [cT (decide_eq_true h0), decide_eq_true h0]; rfl
  · rw [cF (decide_eq_false h0), decide_eq_false h0]
    by_cases h12 : s.length ≤ 12
    · have hp : 0 < s.length := List.length_pos_iff.2 h0
      have := xNamed2 s h12 s.length 0 (Nat.zero_add _)
      rw [List.drop_zero] at this
      rw [cF (decide_eq_false (by omega)), decide_eq_true h12, cT (by simp; omega), xLt, Option.bind_some]
      cases lt (s.getD 0 0) with
      | false => rfl
      | true => exact this
    · rw [cT (decide_eq_true (by omega)), decide_eq_false h12]; rfl
end Go.Proofs.YtgnkkanhjghhfaaGreatDoor.F
/- References that are moved, and where columns or rows are put in or taken out: plain Lean; the laws. -/
namespace Go.Proofs.YtgnkkanhjghhfaaGreatDoor.F
open Go Go.Proofs.YtgnkkanhjghhfaaGreatDoor.K
def inG (c r : Int) : Bool := decide (1 ≤ c) && (decide (c ≤ 52) && (decide (1 ≤ r) && decide (r ≤ 99)))
theorem xIn (c r : Int) : addr_In c r = some (inG c r) := by
  rw [addr_In_eq, addr_within_eq, addr_within_eq, inG]
  show (cond (decide (1 ≤ c)) (some (decide (c ≤ 52))) (some false) : Option Bool).bind _ = _
  cases decide (1 ≤ c) <;> cases decide (c ≤ 52) <;> first | rfl | skip
  show (cond (decide (1 ≤ r)) (some (decide (r ≤ 99))) (some false) : Option Bool).bind _ = _
  cases decide (1 ≤ r) <;> rfl
def right (r : Rf) : Bool := (decide (r.1 = []) || namedR r.1) && inG r.2.1 r.2.2.1
theorem xRight (r : Rf) : ref_Right r = some (right r) := by
  rw [ref_Right_eq, xIn, xNamedR, Option.bind_some, right]
  cases decide (r.1 = []) <;> cases namedR r.1 <;> rfl
def last (w : Int) : Int := cond (decide (w = 0)) 52 (cond (decide (w = 1)) 99 0)
def place (r : Rf) (w : Int) : Int := cond (decide (w = 0)) r.2.1 r.2.2.1
end Go.Proofs.YtgnkkanhjghhfaaGreatDoor.F
/- Formulas as trees: rows of nodes that stand in order. Plain Lean. -/
namespace Go.Proofs.YtgnkkanhjghhfaaGreatDoor.D
open Go Go.Proofs.YtgnkkanhjghhfaaGreatDoor.K
def iv : Nat → Nat → List Int
  | _, 0 => []
  | a, n + 1 => (a : Int) :: iv (a + 1) n
theorem iv_len : ∀ (n a : Nat), (iv a n).length = n
  | 0, _ => rfl
  | n + 1, a => by simp [iv, iv_len n]
theorem iv_parts : ∀ (u : List Int) (x : Int) (v : List Int) (a n : Nat), u ++ x :: v = iv a n → u = iv a u.length ∧ x = ((a + u.length : Nat) : Int) ∧ v = iv (a + u.length + 1) v.length ∧ n = u.length + 1 + v.length
  | [], x, v, a, 0, h => by cases h
  | [], x, v, a, n + 1, h => by
    simp only [List.nil_append, iv, List.cons.injEq] at h
    obtain ⟨rfl, rfl⟩ := h
    refine ⟨rfl, rfl, ?_, by simp [iv_len]; omega⟩
    simp [iv_len]
  | y :: u, x, v, a, 0, h => by cases h
  | y :: u, x, v, a, n + 1, h => by
    simp only [List.cons_append, iv, List.cons.injEq] at h
    obtain ⟨rfl, h⟩ := h
    obtain ⟨h1, h2, h3, h4⟩ := iv_parts u x v (a + 1) n h
    refine ⟨by simp only [List.length_cons, iv]; rw [← h1], ?_, ?_, by simp; omega⟩
    · rw [h2]; simp; omega
    · rw [h3, iv_len]; simp only [List.length_cons]; congr 1; omega
inductive Fo (kd : Nat → List Int) : Nat → Nat → List Int → Prop
  | nil (a : Nat) : Fo kd a a []
  | cons {a k b : Nat} {ks : List Int} : Fo kd a k (kd k) → Fo kd (k + 1) b ks → Fo kd a b ((k : Int) :: ks)
inductive Po (kd : Nat → List Int) : List Int → List Int → Prop
  | nil : Po kd [] []
  | cons {k : Nat} {ks u v : List Int} : Po kd (kd k) u → Po kd ks v → Po kd ((k : Int) :: ks) (u ++ (k : Int) :: v)
variable {kd : Nat → List Int}
theorem Fo.le {a b : Nat} {ks : List Int} (h : Fo kd a b ks) : a ≤ b := by
  induction h with
  | nil a => exact Nat.le_refl _
  | cons _ _ h1 h2 => omega
theorem Fo.append {a b c : Nat} {xs ys : List Int} (h : Fo kd a b xs) (h' : Fo kd b c ys) : Fo kd a c (xs ++ ys) := by
  induction h with
  | nil a => exact h'
  | cons h1 _ _ ih => exact .cons h1 (ih h')
theorem Fo.split : ∀ {xs ys : List Int} {a c : Nat}, Fo kd a c (xs ++ ys) → ∃ b, Fo kd a b xs ∧ Fo kd b c ys
  | [], ys, a, c, h => ⟨a, .nil a, h⟩
  | x :: xs, ys, a, c, h => by
    cases h with
    | cons h1 h2 =>
      obtain ⟨b, h3, h4⟩ := Fo.split h2
      exact ⟨b, .cons h1 h3, h4⟩
theorem Fo.mem {a b : Nat} {ks : List Int} (h : Fo kd a b ks) : ∀ x ∈ ks, ∃ k : Nat, x = (k : Int) ∧ a ≤ k ∧ k < b := by
  induction h with
  | nil a => intro x hx; cases hx
  | cons h1 h2 _ ih =>
    intro x hx
    have l1 := h1.le
    have l2 := h2.le
    rcases List.mem_cons.1 hx with rfl | hx
    · exact ⟨_, rfl, l1, by omega⟩
    · obtain ⟨k, e, h3, h4⟩ := ih x hx
      exact ⟨k, e, by omega, h4⟩
theorem Fo.len {a b : Nat} {ks : List Int} (h : Fo kd a b ks) : ks.length ≤ b - a := by
  induction h with
  | nil a => simp
  | cons h1 h2 _ ih =>
    have l1 := h1.le
    have l2 := h2.le
    simp; omega
theorem Fo.one {a b : Nat} {x : Int} (h : Fo kd a b [x]) : ∃ k : Nat, x = (k : Int) ∧ b = k + 1 ∧ Fo kd a k (kd k) := by
  cases h with
  | cons h1 h2 =>
    cases h2 with
    | nil => exact ⟨_, rfl, rfl, h1⟩
theorem Po.fo {ks l : List Int} (h : Po kd ks l) : ∀ a n, l = iv a n → Fo kd a (a + n) ks := by
  induction h with
  | nil =>
    intro a n h
    cases n with
    | zero => exact .nil a
    | succ n => cases h
  | @cons k ks u v _ _ ih1 ih2 =>
    intro a n h
    obtain ⟨h1, h2, h3, h4⟩ := iv_parts _ _ _ a n h
    have h2 := Int.ofNat_inj.1 h2
    have f1 := ih1 a _ h1
    rw [← h2] at f1
    have f2 := ih2 _ _ h3
    rw [← h2] at f2
    rw [show a + n = k + 1 + v.length by omega]
    exact .cons f1 f2
theorem Po.append {xs ys u v : List Int} (h : Po kd xs u) (h' : Po kd ys v) : Po kd (xs ++ ys) (u ++ v) := by
  induction h with
  | nil => exact h'
  | cons h1 _ _ ih => simp only [List.cons_append, List.append_assoc]; exact .cons h1 ih
end Go.Proofs.YtgnkkanhjghhfaaGreatDoor.D
/- Formulas: which nodes can be, and how tightly they hold; plain Lean over the equations. -/
namespace Go.Proofs.YtgnkkanhjghhfaaGreatDoor.D
open Go Go.Proofs.YtgnkkanhjghhfaaGreatDoor.K
open Go.Proofs.YtgnkkanhjghhfaaGreatDoor.P (nat val val_nat nat_zero nat_eq_nil nat_inj nat_one wS)
open Go.Proofs.YtgnkkanhjghhfaaGreatDoor.F (Rf cap dgt map_get all_drop inG)
abbrev Nd := Int × Int × Int × Int × (Bool × List UInt8 × List UInt8) × List UInt8 × Bool × (List UInt8 × Int × Int × Bool × Bool) × List UInt8 × Int × Int × Bool × Bool
abbrev Fmu := List Nd × List Int
abbrev Pt := Int × Int × Int × Int
def ZN : Nd := (0, 0, 0, 0, (false, [], []), [], false, ([], 0, 0, false, false), [], 0, 0, false, false)
theorem w64 {x : Int} (h0 : -9223372036854775808 ≤ x) (h1 : x ≤ 9223372036854775807) : IntKind.i64.wrap x = x := wrap64 h0 h1
theorem ix {i n : Nat} (h : i < n) : (decide (0 ≤ (i : Int)) && decide ((i : Int) < (n : Int))) = true := by simp; omega
def eqC (a b : Nd) : Bool := (decide (a.1 = b.1)) && ((decide (a.2.1 = b.2.1)) && ((decide (a.2.2.1 = b.2.2.1)) && ((decide (a.2.2.2.1 = b.2.2.2.1)) && ((a.2.2.2.2.1.1 == b.2.2.2.2.1.1) && ((decide (a.2.2.2.2.1.2.1 = b.2.2.2.2.1.2.1)) && ((decide (a.2.2.2.2.1.2.2 = b.2.2.2.2.1.2.2)) && ((decide (a.2.2.2.2.2.1 = b.2.2.2.2.2.1)) && ((a.2.2.2.2.2.2.1 == b.2.2.2.2.2.2.1) && ((decide (a.2.2.2.2.2.2.2.1.1 = b.2.2.2.2.2.2.2.1.1)) && ((decide (a.2.2.2.2.2.2.2.1.2.1 = b.2.2.2.2.2.2.2.1.2.1)) && ((decide (a.2.2.2.2.2.2.2.1.2.2.1 = b.2.2.2.2.2.2.2.1.2.2.1)) && ((a.2.2.2.2.2.2.2.1.2.2.2.1 == b.2.2.2.2.2.2.2.1.2.2.2.1) && ((a.2.2.2.2.2.2.2.1.2.2.2.2 == b.2.2.2.2.2.2.2.1.2.2.2.2) && ((decide (a.2.2.2.2.2.2.2.2.1 = b.2.2.2.2.2.2.2.2.1)) && ((decide (a.2.2.2.2.2.2.2.2.2.1 = b.2.2.2.2.2.2.2.2.2.1)) && ((decide (a.2.2.2.2.2.2.2.2.2.2.1 = b.2.2.2.2.2.2.2.2.2.2.1)) && ((a.2.2.2.2.2.2.2.2.2.2.2.1 == b.2.2.2.2.2.2.2.2.2.2.2.1) && (a.2.2.2.2.2.2.2.2.2.2.2.2 == b.2.2.2.2.2.2.2.2.2.2.2.2))))))))))))))))))
theorem eqC_eq (v w : Nd) : eqC v w = true ↔ v = w := by
  obtain ⟨a1, a2, a3, a4, ⟨a5, a6, a7⟩, a8, a9, ⟨a10, a11, a12, a13, a14⟩, a15, a16, a17, a18, a19⟩ := v
  obtain ⟨b1, b2, b3, b4, ⟨b5, b6, b7⟩, b8, b9, ⟨b10, b11, b12, b13, b14⟩, b15, b16, b17, b18, b19⟩ := w
  unfold eqC
  simp only [Bool.and_eq_true, decide_eq_true_eq, beq_iff_eq, Prod.mk.injEq]
  constructor
  · rintro ⟨h1, h2, h3, h4, h5, h6, h7, h8, h9, h10, h11, h12, h13, h14, h15, h16, h17, h18, h19⟩
    exact ⟨h1, h2, h3, h4, ⟨h5, h6, h7⟩, h8, h9, ⟨h10, h11, h12, h13, h14⟩, h15, h16, h17, h18, h19⟩
  · rintro ⟨h1, h2, h3, h4, ⟨h5, h6, h7⟩, h8, h9, ⟨h10, h11, h12, h13, h14⟩, h15, h16, h17, h18, h19⟩
    exact ⟨h1, h2, h3, h4, h5, h6, h7, h8, h9, h10, h11, h12, h13, h14, h15, h16, h17, h18, h19⟩
theorem eqC_comm (v w : Nd) : eqC v w = eqC w v := by rw [Bool.eq_iff_iff, eqC_eq, eqC_eq]; exact eq_comm
def cd (b : UInt8) : Bool := cap b || dgt b
def nmV (s : List UInt8) : Bool := (s.all cd && cap (s.getD 0 0)) && (!decide (s = []) && decide (s.length ≤ 12))
theorem nm2 (s : List UInt8) (i : Nat) (q : Bool) (r : Bool) (hi : i + 1 ≤ 9223372036854775807) (h : ast_named_1 s (s.map fun b => (b.toNat : Int)) ((s.map fun b => (b.toNat : Int)).length : Int) ((i + 1 : Nat) : Int) = some r) :
    ast_named_2 s (s.map fun b => (b.toNat : Int)) ((s.map fun b => (b.toNat : Int)).length : Int) (i : Int) q = some (!q && r) := by
  rw [ast_named_2_eq, wS (by omega), h]
  cases q <;> rfl
theorem xNm1 (s : List UInt8) (hs : s.length ≤ 9223372036854775807) : ∀ (m i : Nat), i + m = s.length → 1 ≤ i → ast_named_1 s (s.map fun b => (b.toNat : Int)) ((s.map fun b => (b.toNat : Int)).length : Int) (i : Int) = some ((s.drop i).all cd && (!decide (s = []) && decide (s.length ≤ 12)))
  | 0, i, h, h1 => by
    rw [ast_named_1_eq, cF (decide_eq_false (by simp; omega)), List.drop_of_length_le (by omega), show decide ((s.length : Int) ≤ 12) = decide (s.length ≤ 12) from decide_eq_decide.2 (by omega)]
    cases decide (s = []) <;> simp
  | m + 1, i, h, h1 => by
    have hi : i < s.length := by omega
    have ih := xNm1 s hs m (i + 1) (by omega) (by omega)
    rw [ast_named_1_eq, cT (decide_eq_true (by simp; omega)), cT (ix (by simp; omega)), map_get hi, nm2 s i true _ (by omega) ih, nm2 s i false _ (by omega) ih, nm2 s i _ _ (by omega) ih, all_drop hi]
    rw [cF (show decide ((i : Int) = 0) = false from decide_eq_false (by omega))]
    generalize (s.drop (i + 1)).all cd = r
    generalize (!decide (s = []) && decide (s.length ≤ 12)) = z
    unfold cd cap dgt
    generalize (s.getD i 0).toNat = c
    by_cases c1 : (c : Int) < 65
    · rw [cT (decide_eq_true c1), decide_eq_false (show ¬ 65 ≤ c by omega)]
      by_cases c2 : (c : Int) < 48
      · rw [cT (decide_eq_true c2), decide_eq_false (show ¬ 48 ≤ c by omega)]; simp
      · rw [cF (decide_eq_false c2), decide_eq_true (show 48 ≤ c by omega)]
        by_cases c3 : (c : Int) > 57
        · rw [decide_eq_true c3, decide_eq_false (show ¬ c ≤ 57 by omega)]; simp
        · rw [decide_eq_false c3, decide_eq_true (show c ≤ 57 by omega)]; simp
    · rw [cF (decide_eq_false c1), decide_eq_true (show 65 ≤ c by omega)]
      by_cases c2 : (c : Int) > 90
      · rw [cT (decide_eq_true c2), decide_eq_false (show ¬ c ≤ 90 by omega), cF (decide_eq_false (by omega)), decide_eq_true (by omega), decide_eq_false (show ¬ c ≤ 57 by omega)]; simp
      · rw [cF (decide_eq_false c2), decide_eq_true (show c ≤ 90 by omega)]; simp
theorem xNm (s : List UInt8) (hs : s.length ≤ 9223372036854775807) : ast_named s = some (nmV s) := by
  cases s with
  | nil => rw [ast_named_eq, ast_named_1_eq]; rfl
  | cons b t =>
    have h0 : 0 < (b :: t).length := by simp
    have ih := xNm1 (b :: t) hs t.length 1 (by simp; omega) (by omega)
    rw [ast_named_eq]
    show ast_named_1 (b :: t) ((b :: t).map fun b => (b.toNat : Int)) (((b :: t).map fun b => (b.toNat : Int)).length : Int) ((0 : Nat) : Int) = _
    rw [ast_named_1_eq, cT (decide_eq_true (by simp)), cT (ix (by simp)), map_get h0, nm2 (b :: t) 0 true _ (by omega) ih, nm2 (b :: t) 0 false _ (by omega) ih, nm2 (b :: t) 0 _ _ (by omega) ih]
    rw [cT (show decide (((0 : Nat) : Int) = 0) = true from rfl), nmV]
    show _ = some ((cd b && t.all cd) && cap b && _)
    show cond (decide ((b.toNat : Int) < 65)) (some (!true && (t.all cd && _))) (cond (decide ((b.toNat : Int) > 90)) (some (!true && (t.all cd && _))) (some (!false && (t.all cd && _)))) = _
    generalize t.all cd = r
    generalize (!decide (b :: t = []) && decide ((b :: t).length ≤ 12)) = z
    unfold cd cap
    generalize dgt b = d
    generalize b.toNat = c
    by_cases c1 : (c : Int) < 65
    · rw [cT (decide_eq_true c1), decide_eq_false (show ¬ 65 ≤ c by omega)]; simp
    · rw [cF (decide_eq_false c1), decide_eq_true (show 65 ≤ c by omega)]
      by_cases c2 : (c : Int) > 90
      · rw [cT (decide_eq_true c2), decide_eq_false (show ¬ c ≤ 90 by omega)]; simp
      · rw [cF (decide_eq_false c2), decide_eq_true (show c ≤ 90 by omega)]; simp
def sizV (x : Pt) : Int := IntKind.i64.wrap ((IntKind.i64.wrap ((IntKind.i64.wrap (x.2.2.1 - x.1)) + 1)) * (IntKind.i64.wrap ((IntKind.i64.wrap (x.2.2.2 - x.2.1)) + 1)))
def mmV (x : Pt) : Pt := (min x.1 x.2.2.1, min x.2.1 x.2.2.2, max x.1 x.2.2.1, max x.2.1 x.2.2.2)
def normV (x : Pt) : Pt × Int := cond (!inG x.1 x.2.1) ((0, 0, 0, 0), 6) (cond (!inG x.2.2.1 x.2.2.2) ((0, 0, 0, 0), 6) (cond (decide (sizV (mmV x) > 200)) ((0, 0, 0, 0), 7) (mmV x, 0)))
theorem xNorm (x : Pt) : addr_Area_Norm x = some (normV x) := by
  have n1 : ∀ q, addr_Area_Norm_1 q x (0, 0, 0, 0) = some (cond q ((0, 0, 0, 0), 6) (cond (decide (sizV (mmV x) > 200)) ((0, 0, 0, 0), 7) (mmV x, 0))) := fun q => by
    rw [addr_Area_Norm_1_eq, addr_Area_size_eq, Option.bind_some]
    show cond q _ (cond (decide (sizV (mmV x) > 200)) _ _) = _
    cases q <;> cases decide (sizV (mmV x) > 200) <;> rfl
  rw [addr_Area_Norm_eq, Go.Proofs.YtgnkkanhjghhfaaGreatDoor.F.xIn, Option.bind_some, Go.Proofs.YtgnkkanhjghhfaaGreatDoor.F.xIn, Option.bind_some, n1, n1, normV]
  cases inG x.1 x.2.1 <;> cases inG x.2.2.1 x.2.2.2 <;> rfl
def eqP (x y : Pt) : Bool := (decide (x.1 = y.1)) && ((decide (x.2.1 = y.2.1)) && ((decide (x.2.2.1 = y.2.2.1)) && (decide (x.2.2.2 = y.2.2.2))))
theorem eqP_eq (x y : Pt) : eqP x y = decide (x = y) := by
  obtain ⟨a, b, c, d⟩ := x
  obtain ⟨a', b', c', d'⟩ := y
  unfold eqP
  rw [Bool.eq_iff_iff]
  simp only [Bool.and_eq_true, decide_eq_true_eq, Prod.mk.injEq]
theorem eqP_comm (x y : Pt) : eqP x y = eqP y x := by rw [eqP_eq, eqP_eq]; exact decide_eq_decide.2 eq_comm
theorem siz_pos {x : Pt} (h : (normV x).2 = 0) (he : x = (normV x).1) : sizV x > 0 := by
  unfold normV at h he
  cases h1 : inG x.1 x.2.1 with
  | false => rw [h1] at h; cases h
  | true =>
    cases h2 : inG x.2.2.1 x.2.2.2 with
    | false => rw [h1, h2] at h; cases h
    | true =>
      rw [h1, h2] at h he
      simp only [Bool.not_true, cond_false] at h he
      cases h3 : decide (sizV (mmV x) > 200) with
      | true => rw [h3] at h; cases h
      | false =>
        rw [h3] at he
        simp only [cond_false] at he
        obtain ⟨a, b, c, d⟩ := x
        unfold inG at h1 h2
        simp only [Bool.and_eq_true, decide_eq_true_eq] at h1 h2
        simp only [mmV, Prod.mk.injEq] at he
        obtain ⟨e1, e2, e3, e4⟩ := he
        have u1 : 1 ≤ c - a + 1 ∧ c - a + 1 ≤ 52 := by omega
        have u2 : 1 ≤ d - b + 1 ∧ d - b + 1 ≤ 99 := by omega
        unfold sizV
        simp only
        rw [w64 (x := c - a) (by omega) (by omega), w64 (x := c - a + 1) (by omega) (by omega), w64 (x := d - b) (by omega) (by omega), w64 (x := d - b + 1) (by omega) (by omega)]
        generalize c - a + 1 = p at u1
        generalize d - b + 1 = q at u2
        have hp : 0 < p * q := Int.mul_pos (by omega) (by omega)
        have hq : p * q ≤ 52 * 99 := Int.mul_le_mul u1.2 u2.2 (by omega) (by omega)
        rw [w64 (by omega) (by omega)]
        exact hp
def boxV (a b : Rf) : Bool := Go.Proofs.YtgnkkanhjghhfaaGreatDoor.F.right a && (Go.Proofs.YtgnkkanhjghhfaaGreatDoor.F.right b && (decide (b.1 = []) && (decide ((normV (a.2.1, a.2.2.1, b.2.1, b.2.2.1)).2 = 0) && eqP (normV (a.2.1, a.2.2.1, b.2.1, b.2.2.1)).1 (a.2.1, a.2.2.1, b.2.1, b.2.2.1))))
theorem xBox (a b : Rf) : ast_box a b = some (boxV a b) := by
  rw [ast_box_eq, addr_Area_Size_eq, addr_Area_well_eq, xNorm, Option.bind_some, Go.Proofs.YtgnkkanhjghhfaaGreatDoor.F.xRight, Option.bind_some, Go.Proofs.YtgnkkanhjghhfaaGreatDoor.F.xRight, Option.bind_some, boxV]
  generalize hx : ((a.2.1, a.2.2.1, b.2.1, b.2.2.1) : Pt) = x
  show (Option.bind (Option.bind (cond (decide ((normV x).2 = 0)) (some (eqP x (normV x).1)) (some false)) fun v1 => cond (!v1) (some 0) ((addr_Area_size x).bind fun v2 => some v2)) fun v1 => _) = _
  rw [addr_Area_size_eq]
  by_cases h0 : (normV x).2 = 0
  · rw [decide_eq_true h0, cond_true, Option.bind_some, eqP_comm]
    cases he : eqP (normV x).1 x with
    | false => simp
    | true =>
      rw [eqP_eq] at he
      have hp := siz_pos h0 (of_decide_eq_true he).symm
      show cond (decide (sizV x > 0)) _ _ = _
      rw [decide_eq_true hp]
      cases Go.Proofs.YtgnkkanhjghhfaaGreatDoor.F.right a <;> cases Go.Proofs.YtgnkkanhjghhfaaGreatDoor.F.right b <;> simp
  · rw [decide_eq_false h0, cond_false]; simp
def endsR (r : Rt) : Bool := (endsN (val (well r).2.2)).2
def numQ (r : Rt) : Bool := right r && (!r.1 && endsR r)
theorem xNumQ (r : Rt) : ast_number r = some (numQ r) := by
  obtain ⟨s, n, d, e, f⟩ := well_form r
  rw [ast_number_eq, xEnds e f, Option.bind_some, xRight, Option.bind_some, numQ, endsR, e, val_nat]
  cases right r <;> cases r.1 <;> rfl
def c1 (n : Nd) : Nd := (n.1, 0, 0, 0, n.2.2.2.2.1, [], false, ([], 0, 0, false, false), [], 0, 0, false, false)
def c2 (n : Nd) : Nd := (n.1, 0, 0, 0, (false, [], []), n.2.2.2.2.2.1, false, ([], 0, 0, false, false), [], 0, 0, false, false)
def c3 (n : Nd) : Nd := (n.1, 0, 0, 0, (false, [], []), [], n.2.2.2.2.2.2.1, ([], 0, 0, false, false), [], 0, 0, false, false)
def c4 (n : Nd) : Nd := (n.1, n.2.1, 0, 0, (false, [], []), [], false, ([], 0, 0, false, false), [], 0, 0, false, false)
def c5 (n : Nd) : Nd := (n.1, 0, 0, 0, (false, [], []), [], false, n.2.2.2.2.2.2.2.1, [], 0, 0, false, false)
def c6 (n : Nd) : Nd := (n.1, 0, 0, 0, (false, [], []), [], false, n.2.2.2.2.2.2.2)
def c7 (n : Nd) : Nd := (n.1, n.2.1, n.2.2.1, 0, (false, [], []), [], false, ([], 0, 0, false, false), [], 0, 0, false, false)
def c8 (n : Nd) : Nd := (n.1, n.2.1, n.2.2.1, n.2.2.2.1, (false, [], []), [], false, ([], 0, 0, false, false), [], 0, 0, false, false)
def c9 (n : Nd) : Nd := (n.1, 0, n.2.2.1, n.2.2.2.1, (false, [], []), n.2.2.2.2.2.1, false, ([], 0, 0, false, false), [], 0, 0, false, false)
def opsV (n : Nd) : Bool := decide (n.2.1 = 13) || decide (n.2.1 = 14)
def binV (n : Nd) : Bool := decide (n.2.1 ≥ 1) && decide (n.2.1 ≤ 12)
def argV (n : Nd) : Bool := decide (n.2.2.2.1 ≥ 0) && (decide (n.2.2.2.1 ≤ 20) && (decide (n.2.2.2.1 > 0) || decide (n.2.2.1 = 0)))
def canV (n : Nd) : Bool := cond (decide (n.1 = 1)) (eqC n (c1 n) && numQ n.2.2.2.2.1) (cond (decide (n.1 = 2)) (eqC n (c2 n) && plainV n.2.2.2.2.2.1) (cond (decide (n.1 = 3)) (eqC n (c3 n)) (cond (decide (n.1 = 4)) (eqC n (c4 n) && isF n.2.1) (cond (decide (n.1 = 5)) (eqC n (c5 n) && Go.Proofs.YtgnkkanhjghhfaaGreatDoor.F.right n.2.2.2.2.2.2.2.1) (cond (decide (n.1 = 6)) (eqC n (c6 n) && boxV n.2.2.2.2.2.2.2.1 n.2.2.2.2.2.2.2.2) (cond (decide (n.1 = 7)) (eqC n (c7 n) && opsV n) (cond (decide (n.1 = 8)) (eqC n (c8 n) && binV n) (cond (decide (n.1 = 9)) (eqC n (c9 n) && (nmV n.2.2.2.2.2.1 && argV n)) false))))))))
theorem may1 (n : Nd) (q : Bool) (x : Nd) : ast_may_1 q n x = some (eqC n x && q) := by
  rw [ast_may_1_eq]
  show cond q (some (eqC x n)) (some false) = _
  rw [eqC_comm]
  cases q <;> cases eqC n x <;> rfl
theorem text2 (s : List UInt8) : decide ((vText s).1 = 2) = plainV s := by
  unfold vText vFault
  cases plainV s <;> rfl
theorem name4 (k : Int) : (!decide (nameV k = ([] : List UInt8))) = isF k := by
  cases h : isF k with
  | false => unfold nameV; rw [h]; rfl
  | true => rcases isF_cases h with rfl | rfl | rfl | rfl | rfl | rfl | rfl <;> rfl
theorem xCan (n : Nd) (hs : n.2.2.2.2.2.1.length ≤ 9223372036854775807) : ast_may n = some (canV n) := by
  rw [ast_may_eq, xNumQ, xvText _ hs, xName, Go.Proofs.YtgnkkanhjghhfaaGreatDoor.F.xRight, xBox, xNm _ hs]
  simp only [Option.bind_some, may1, text2, name4]
  rw [canV]
  generalize decide (n.1 = 1) = k1
  generalize decide (n.1 = 2) = k2
  generalize decide (n.1 = 3) = k3
  generalize decide (n.1 = 4) = k4
  generalize decide (n.1 = 5) = k5
  generalize decide (n.1 = 6) = k6
  generalize decide (n.1 = 7) = k7
  generalize decide (n.1 = 8) = k8
  generalize decide (n.1 = 9) = k9
  cases k1
  · cases k2
    · cases k3
      · cases k4
        · cases k5
          · cases k6
            · cases k7
              · cases k8
                · cases k9
                  · simp
                  · show cond (nmV _) (cond (decide (n.2.2.2.1 ≥ 0)) (cond (decide (n.2.2.2.1 ≤ 20)) (cond (decide (n.2.2.2.1 > 0)) (some (eqC n (c9 n) && true)) (some (eqC n (c9 n) && decide (n.2.2.1 = 0)))) (some (eqC n (c9 n) && false))) (some (eqC n (c9 n) && false))) (some (eqC n (c9 n) && false)) = some (eqC n (c9 n) && (nmV _ && argV n))
                    unfold argV
                    generalize eqC n (c9 n) = e
                    cases nmV n.2.2.2.2.2.1 <;> cases decide (n.2.2.2.1 ≥ 0) <;> cases decide (n.2.2.2.1 ≤ 20) <;> cases decide (n.2.2.2.1 > 0) <;> cases e <;> simp
                · show cond (decide (n.2.1 ≥ 1)) (some (eqC n (c8 n) && decide (n.2.1 ≤ 12))) (some (eqC n (c8 n) && false)) = some (eqC n (c8 n) && binV n)
                  unfold binV
                  cases decide (n.2.1 ≥ 1) <;> simp
              · show cond (decide (n.2.1 = 13)) (some (eqC n (c7 n) && true)) (some (eqC n (c7 n) && decide (n.2.1 = 14))) = some (eqC n (c7 n) && opsV n)
                unfold opsV
                cases decide (n.2.1 = 13) <;> simp
            · rfl
          · rfl
        · rfl
      · show some (eqC n (c3 n) && true) = some (eqC n (c3 n))
        rw [Bool.and_true]
    · rfl
  · rfl
def levV (n : Nd) : Int := if n.1 = 7 then (if n.2.1 = 13 then 6 else if n.2.1 = 14 then 7 else 8) else if n.1 = 8 then (if n.2.1 = 1 ∨ n.2.1 = 2 then 3 else if n.2.1 = 3 ∨ n.2.1 = 4 then 4 else if n.2.1 = 5 then 5 else if n.2.1 = 6 then 2 else if 7 ≤ n.2.1 ∧ n.2.1 ≤ 12 then 1 else 8) else 8
theorem xLev (n : Nd) : ast_Level n = some (levV n) := by
  rw [ast_Level_eq, levV]
  simp only [ast_Level_1_eq, ast_Level_2_eq, ast_Level_3_eq, Bool.cond_decide, cond_true, cond_false]
  repeat' (first | rfl | (exfalso; omega) | split)
end Go.Proofs.YtgnkkanhjghhfaaGreatDoor.D
/- Formulas: kids, and the reference's walk; plain Lean over the equations. -/
namespace Go.Proofs.YtgnkkanhjghhfaaGreatDoor.D
open Go Go.Proofs.YtgnkkanhjghhfaaGreatDoor.K
open Go.Proofs.YtgnkkanhjghhfaaGreatDoor.P (wS)
def oddK (n : Nd) (A : List Int) : Bool := decide (n.2.2.1 < 0) || (decide (n.2.2.1 > (A.length : Int)) || decide (n.2.2.2.1 > (A.length : Int) - n.2.2.1))
def kv (n : Nd) (A : List Int) : List Int × Bool :=
  cond (decide (n.1 = 7)) ([n.2.2.1], true) (cond (decide (n.1 = 8)) ([n.2.2.1, n.2.2.2.1], true) (cond (decide (n.1 = 9)) (cond (decide (n.2.2.2.1 > 0)) (cond (oddK n A) ([], false) ((A.take (n.2.2.1 + n.2.2.2.1).toNat).drop n.2.2.1.toNat, true)) ([], true)) ([], true)))
def nd (f : Fmu) (i : Nat) : Nd := f.1.getD i ZN
def kd (f : Fmu) (i : Nat) : List Int := (kv (nd f i) f.2).1
theorem oddK_false {n : Nd} {A : List Int} (h : oddK n A = false) : 0 ≤ n.2.2.1 ∧ n.2.2.1 ≤ (A.length : Int) ∧ n.2.2.2.1 ≤ (A.length : Int) - n.2.2.1 := by
  unfold oddK at h
  simp only [Bool.or_eq_false_iff, decide_eq_false_iff_not] at h
  omega
theorem xKids (n : Nd) (A : List Int) (hA : A.length ≤ 1000) (hc : n.1 = 9 → 0 ≤ n.2.2.2.1 ∧ (n.2.2.2.1 > 0 ∨ n.2.2.1 = 0)) : ast_kids n A = some (kv n A) := by
  have bad : ast_kids_1 A true n = some ([], false) := by rw [ast_kids_1_eq, cond_true]
  rw [ast_kids_eq, bad]
  unfold kv
  cases decide (n.1 = 7)
  · cases decide (n.1 = 8)
    · by_cases h9 : n.1 = 9
      · obtain ⟨c1, c2⟩ := hc h9
        simp only [decide_eq_true h9, cond_true, cond_false]
        by_cases h1 : n.2.2.1 < 0
        · have hb : n.2.2.2.1 > 0 := by omega
          rw [cT (decide_eq_true h1), cT (decide_eq_true hb), oddK, decide_eq_true h1]; rfl
        · rw [cF (decide_eq_false h1)]
          by_cases h2 : n.2.2.1 > (A.length : Int)
          · have hb : n.2.2.2.1 > 0 := by omega
            rw [cT (decide_eq_true h2), cT (decide_eq_true hb), oddK, decide_eq_true h2, Bool.true_or, Bool.or_true]; rfl
          · rw [cF (decide_eq_false h2), w64 (by omega) (by omega)]
            by_cases h3 : n.2.2.2.1 > (A.length : Int) - n.2.2.1
            · have hb : n.2.2.2.1 > 0 := by omega
              rw [decide_eq_true h3, bad, cT (decide_eq_true hb), oddK, decide_eq_true h3, Bool.or_true, Bool.or_true]; rfl
            · have hin : (decide (0 ≤ n.2.2.1) && (decide (n.2.2.1 ≤ n.2.2.1 + n.2.2.2.1) && (decide (n.2.2.1 + n.2.2.2.1 ≤ n.2.2.1 + n.2.2.2.1) && decide (n.2.2.1 + n.2.2.2.1 ≤ (A.length : Int))))) = true := by simp; omega
              rw [decide_eq_false h3, ast_kids_1_eq, cond_false, w64 (x := n.2.2.1 + n.2.2.2.1) (by omega) (by omega), cT hin, cT (decide_eq_true rfl)]
              by_cases hb : n.2.2.2.1 > 0
              · rw [cT (decide_eq_true hb), oddK, decide_eq_false h1, decide_eq_false h2, decide_eq_false h3]; rfl
              · have e1 : n.2.2.2.1 = 0 := by omega
                have e2 : n.2.2.1 = 0 := by omega
                rw [cF (decide_eq_false hb), e1, e2]
                simp
      · simp only [decide_eq_false h9, cond_false]
    · rfl
  · rfl
theorem can_arg {n : Nd} (h : canV n = true) (h9 : n.1 = 9) : 0 ≤ n.2.2.2.1 ∧ n.2.2.2.1 ≤ 20 ∧ (n.2.2.2.1 > 0 ∨ n.2.2.1 = 0) := by
  unfold canV at h
  rw [h9] at h
  have h : (eqC n (c9 n) && (nmV n.2.2.2.2.2.1 && argV n)) = true := h
  simp only [Bool.and_eq_true] at h
  have ha := h.2.2
  unfold argV at ha
  simp only [Bool.and_eq_true, Bool.or_eq_true, decide_eq_true_eq] at ha
  omega
theorem kv_len (n : Nd) (A : List Int) (hA : A.length ≤ 1000) : (kv n A).1.length ≤ 1000 := by
  unfold kv
  cases decide (n.1 = 7) <;> cases decide (n.1 = 8) <;> cases decide (n.1 = 9) <;> cases decide (n.2.2.2.1 > 0) <;> cases oddK n A <;> simp
  all_goals omega
theorem kd_len (f : Fmu) (hA : f.2.length ≤ 1000) (i : Nat) : (kd f i).length ≤ 1000 := kv_len _ _ hA
theorem Po.one {kd : Nat → List Int} {i : Nat} {out : List Int} (h : Po kd (kd i) out) : Po kd [(i : Int)] (out ++ [(i : Int)]) := .cons h .nil
theorem take_one {l : List Int} {k : Nat} (h : k < l.length) : l.take (k + 1) = l.take k ++ [l.getD k 0] := by
  rw [List.take_succ_eq_append_getElem h, List.getD_eq_getElem?_getD, List.getElem?_eq_getElem h]; rfl
end Go.Proofs.YtgnkkanhjghhfaaGreatDoor.D
/- Formulas: how the program puts parts together; plain Lean over the equations. -/
namespace Go.Proofs.YtgnkkanhjghhfaaGreatDoor.D
open Go Go.Proofs.YtgnkkanhjghhfaaGreatDoor.K
open Go.Proofs.YtgnkkanhjghhfaaGreatDoor.P (wS)
def PZ : Pt := (0, 0, 0, 0)
theorem pdrop {w : List Pt} {i : Nat} (h : i < w.length) : w.drop i = w.getD i PZ :: w.drop (i + 1) := by
  rw [List.drop_eq_getElem_cons h, List.getD_eq_getElem?_getD, List.getElem?_eq_getElem h]; rfl
def deepB (own : Int) (call : Bool) (i : Nat) (lv : Int) : Bool := !call && (decide (lv < own) || (decide (i = 1) && decide (lv = own)))
def nst (own : Int) (call : Bool) : Nat → List Pt → Int → Int
  | _, [], d => d
  | i, p :: r, d => nst own call (i + 1) r (max d (cond (deepB own call i p.2.2.1) (p.2.2.2 + 1) p.2.2.2))
def nestV (n : Nd) (l : List Pt) : Int := cond (decide (n.1 = 9) || decide (levV n = 6)) (nst (levV n) (decide (n.1 = 9)) 0 l 0 + 1) (nst (levV n) (decide (n.1 = 9)) 0 l 0)
theorem nst_bd {own : Int} {call : Bool} {M : Int} : ∀ (l : List Pt) (i : Nat) (d : Int), (∀ p ∈ l, 0 ≤ p.2.2.2 ∧ p.2.2.2 ≤ M) → 0 ≤ d → d ≤ M + 1 → 0 ≤ nst own call i l d ∧ nst own call i l d ≤ M + 1
  | [], _, d, _, h0, h1 => ⟨h0, h1⟩
  | p :: r, i, d, hp, h0, h1 => by
    have := hp p (by simp)
    simp only [nst]
    refine nst_bd r (i + 1) _ (fun q hq => hp q (by simp [hq])) ?_ ?_
    · omega
    · cases deepB own call i p.2.2.1
      · simp only [cond_false]; omega
      · simp only [cond_true]; omega
theorem nestV_bd {n : Nd} {l : List Pt} {M : Int} (hM : 0 ≤ M) (hp : ∀ p ∈ l, 0 ≤ p.2.2.2 ∧ p.2.2.2 ≤ M) : 0 ≤ nestV n l ∧ nestV n l ≤ M + 2 := by
  have := nst_bd (own := levV n) (call := decide (n.1 = 9)) l 0 0 hp (Int.le_refl _) (by omega)
  unfold nestV
  cases decide (n.1 = 9) || decide (levV n = 6)
  · simp only [cond_false]; omega
  · simp only [cond_true]; omega
theorem xNest (n : Nd) (l : List Pt) (hl : l.length ≤ 1000) (hp : ∀ p ∈ l, 0 ≤ p.2.2.2 ∧ p.2.2.2 ≤ 1000) : ast_nest n l = some (nestV n l) := by
  have loop : ∀ (m i : Nat) (d : Int), i + m = l.length → 0 ≤ d → d ≤ 1001 → ast_nest_1 d (levV n) l (l.length : Int) (i : Int) n = some (cond (decide (n.1 = 9) || decide (levV n = 6)) (nst (levV n) (decide (n.1 = 9)) i (l.drop i) d + 1) (nst (levV n) (decide (n.1 = 9)) i (l.drop i) d)) := by
    intro m
    induction m with
    | zero =>
      intro i d h h0 h1
      rw [ast_nest_1_eq, cF (decide_eq_false (by omega)), List.drop_of_length_le (by omega), ast_nest_3_eq, ast_nest_3_eq, w64 (x := d + 1) (by omega) (by omega)]
      simp only [nst]
      cases decide (n.1 = 9) <;> cases decide (levV n = 6) <;> rfl
    | succ m ih =>
      intro i d h h0 h1
      have hi : i < l.length := by omega
      have hq := hp (l.getD i PZ) (by rw [List.getD_eq_getElem?_getD, List.getElem?_eq_getElem hi]; exact List.getElem_mem hi)
      have n4 : ∀ x : Int, 0 ≤ x → x ≤ 1001 → ast_nest_4 d (levV n) x l (l.length : Int) (i : Int) n = some (cond (decide (n.1 = 9) || decide (levV n = 6)) (nst (levV n) (decide (n.1 = 9)) (i + 1) (l.drop (i + 1)) (max d x) + 1) (nst (levV n) (decide (n.1 = 9)) (i + 1) (l.drop (i + 1)) (max d x))) := fun x x0 x1 => by
        rw [ast_nest_4_eq, wS (by omega)]
        exact ih (i + 1) (max d x) (by omega) (by omega) (by omega)
      have n2 : ∀ q, ast_nest_2 d (levV n) (l.getD i PZ).2.2.2 l (l.length : Int) (i : Int) q n = some (cond (decide (n.1 = 9) || decide (levV n = 6)) (nst (levV n) (decide (n.1 = 9)) (i + 1) (l.drop (i + 1)) (max d (cond q ((l.getD i PZ).2.2.2 + 1) (l.getD i PZ).2.2.2)) + 1) (nst (levV n) (decide (n.1 = 9)) (i + 1) (l.drop (i + 1)) (max d (cond q ((l.getD i PZ).2.2.2 + 1) (l.getD i PZ).2.2.2)))) := fun q => by
        rw [ast_nest_2_eq, w64 (x := (l.getD i PZ).2.2.2 + 1) (by omega) (by omega), n4 _ (by omega) (by omega), n4 _ (by omega) (by omega)]
        cases q <;> rfl
      rw [ast_nest_1_eq, cT (decide_eq_true (by omega)), cT (ix hi), Int.toNat_natCast]
      show cond (!decide (n.1 = 9)) (cond (decide ((l.getD i PZ).2.2.1 < levV n)) (ast_nest_2 d (levV n) (l.getD i PZ).2.2.2 l (l.length : Int) (i : Int) true n) (cond (decide ((i : Int) = 1)) (ast_nest_2 d (levV n) (l.getD i PZ).2.2.2 l (l.length : Int) (i : Int) (decide ((l.getD i PZ).2.2.1 = levV n)) n) (ast_nest_2 d (levV n) (l.getD i PZ).2.2.2 l (l.length : Int) (i : Int) false n))) (ast_nest_2 d (levV n) (l.getD i PZ).2.2.2 l (l.length : Int) (i : Int) false n) = _
      rw [n2, n2, n2, pdrop hi]
      simp only [nst]
      rw [show decide ((i : Int) = 1) = decide (i = 1) from decide_eq_decide.2 (by omega)]
      generalize l.getD i PZ = p
      generalize l.drop (i + 1) = r
      have : ∀ q q' : Bool, q = q' → (some (cond (decide (n.1 = 9) || decide (levV n = 6)) (nst (levV n) (decide (n.1 = 9)) (i + 1) r (max d (cond q (p.2.2.2 + 1) p.2.2.2)) + 1) (nst (levV n) (decide (n.1 = 9)) (i + 1) r (max d (cond q (p.2.2.2 + 1) p.2.2.2)))) : Option Int) = some (cond (decide (n.1 = 9) || decide (levV n = 6)) (nst (levV n) (decide (n.1 = 9)) (i + 1) r (max d (cond q' (p.2.2.2 + 1) p.2.2.2)) + 1) (nst (levV n) (decide (n.1 = 9)) (i + 1) r (max d (cond q' (p.2.2.2 + 1) p.2.2.2)))) := fun q q' h => by rw [h]
      unfold deepB
      cases h9 : decide (n.1 = 9)
      · cases h1 : decide (p.2.2.1 < levV n)
        · cases h2 : decide (i = 1)
          · simp
          · simp
        · simp
      · simp
  rw [ast_nest_eq, xLev, Option.bind_some]
  have := loop l.length 0 0 (Nat.zero_add _) (Int.le_refl _) (by omega)
  rw [List.drop_zero] at this
  exact this
def callN (n : Nd) : Bool := decide (n.1 = 9) && decide (n.2.2.2.1 > 0)
def topN (f : Fmu) (m : Nat) (w : List Pt) : List Pt := w.drop (w.length - (kd f m).length)
def newP (f : Fmu) (m : Nat) (w : List Pt) : Pt := ((m : Int), cond (decide (0 < (kd f m).length)) ((w.getD (w.length - (kd f m).length) PZ).2.1) (m : Int), levV (nd f m), nestV (nd f m) (topN f m w))
def okS (f : Fmu) (m : Nat) (w : List Pt) (u : Int) : Prop :=
  canV (nd f m) = true ∧ (kv (nd f m) f.2).2 = true ∧ (kd f m).length ≤ w.length ∧ (topN f m w).map (·.1) = kd f m ∧ (callN (nd f m) = true → (nd f m).2.2.1 = u)
def nextU (f : Fmu) (m : Nat) (u : Int) : Int := cond (callN (nd f m)) (u + (nd f m).2.2.2.1) u
def nextW (f : Fmu) (m : Nat) (w : List Pt) : List Pt := w.take (w.length - (kd f m).length) ++ [newP f m w]
noncomputable def stepF (f : Fmu) (m : Nat) (w : List Pt) (u : Int) : Option (List Pt × Int) := open Classical in if okS f m w u then some (nextW f m w, nextU f m u) else none
theorem stepF_yes {f : Fmu} {m : Nat} {w : List Pt} {u : Int} (h : okS f m w u) : stepF f m w u = some (nextW f m w, nextU f m u) := by unfold stepF; exact if_pos h
theorem stepF_no {f : Fmu} {m : Nat} {w : List Pt} {u : Int} (h : ¬ okS f m w u) : stepF f m w u = none := by unfold stepF; exact if_neg h
structure Bd (m : Nat) (w : List Pt) (u : Int) : Prop where
  len : w.length ≤ m
  nest : ∀ p ∈ w, 0 ≤ p.2.2.2 ∧ p.2.2.2 ≤ 2 * (m : Int)
  lo : 0 ≤ u
  hi : u ≤ 20 * (m : Int)
theorem callN_can {n : Nd} (h : canV n = true) (hc : callN n = true) : n.1 = 9 ∧ 0 < n.2.2.2.1 ∧ n.2.2.2.1 ≤ 20 := by
  unfold callN at hc
  simp only [Bool.and_eq_true, decide_eq_true_eq] at hc
  have := can_arg h hc.1
  omega
theorem Bd.step {f : Fmu} {m : Nat} {w : List Pt} {u : Int} (h : Bd m w u) (ho : okS f m w u) : Bd (m + 1) (nextW f m w) (nextU f m u) := by
  obtain ⟨o1, o2, o3, o4, o5⟩ := ho
  have hl := h.len
  refine ⟨?_, fun p hp => ?_, ?_, ?_⟩
  · unfold nextW; simp; omega
  · unfold nextW at hp
    rw [List.mem_append] at hp
    rcases hp with hp | hp
    · have := h.nest p (List.mem_of_mem_take hp)
      omega
    · simp only [List.mem_singleton] at hp
      subst hp
      have := nestV_bd (n := nd f m) (l := topN f m w) (M := 2 * (m : Int)) (by omega) fun p hp => h.nest p (List.mem_of_mem_drop hp)
      show 0 ≤ nestV (nd f m) (topN f m w) ∧ nestV (nd f m) (topN f m w) ≤ _
      omega
  · unfold nextU
    have := h.lo
    cases hc : callN (nd f m) with
    | false => exact this
    | true => have := callN_can o1 hc; simp only [cond_true]; omega
  · unfold nextU
    have := h.hi
    cases hc : callN (nd f m) with
    | false => simp only [cond_false]; omega
    | true => have := callN_can o1 hc; simp only [cond_true]; omega
theorem xStep (f : Fmu) (hf : f.1.length ≤ 400) (hA : f.2.length ≤ 1000) (hs : ∀ n ∈ f.1, n.2.2.2.2.2.1.length ≤ 9223372036854775807) {m : Nat} (hm : m < f.1.length) {w : List Pt} {u : Int} (hb : Bd m w u) :
    ast_built_1 u f.1 (f.1.length : Int) (m : Int) w f (0, 0, 0, 0) = match stepF f m w u with
      | none => some (PZ, false)
      | some s => ast_built_1 s.2 f.1 (f.1.length : Int) ((m + 1 : Nat) : Int) s.1 f (0, 0, 0, 0) := by
  have hwl := hb.len
  have hu0 := hb.lo
  have hu1 := hb.hi
  have hsn : (nd f m).2.2.2.2.2.1.length ≤ 9223372036854775807 := hs _ (by unfold nd; rw [List.getD_eq_getElem?_getD, List.getElem?_eq_getElem hm]; exact List.getElem_mem hm)
  rw [ast_built_1_eq, cT (decide_eq_true (by omega)), cT (ix hm), Int.toNat_natCast]
  show (ast_may (nd f m)).bind (fun v1 => cond (!v1) (some (PZ, false)) ((ast_kids (nd f m) f.2).bind fun v2 => cond (!v2.2) (ast_built_2 u (m : Int) v2.1 (IntKind.i64.wrap ((w.length : Int) - (v2.1.length : Int))) f.1 (f.1.length : Int) (m : Int) true w f (0, 0, 0, 0) (nd f m)) (ast_built_2 u (m : Int) v2.1 (IntKind.i64.wrap ((w.length : Int) - (v2.1.length : Int))) f.1 (f.1.length : Int) (m : Int) (decide ((IntKind.i64.wrap ((w.length : Int) - (v2.1.length : Int))) < 0)) w f (0, 0, 0, 0) (nd f m)))) = _
  rw [xCan _ hsn, Option.bind_some]
  cases hc : canV (nd f m) with
  | false =>
    rw [stepF_no (fun h => by have := h.1; rw [hc] at this; cases this)]; rfl
  | true =>
  rw [Bool.not_true, cond_false, xKids _ _ hA (fun h9 => by have := can_arg hc h9; omega), Option.bind_some]
  have b2 : ∀ c, ast_built_2 u (m : Int) (kd f m) c f.1 (f.1.length : Int) (m : Int) true w f (0, 0, 0, 0) (nd f m) = some (PZ, false) := fun c => by rw [ast_built_2_eq, cond_true]; rfl
  show cond (!(kv (nd f m) f.2).2) (ast_built_2 u (m : Int) (kd f m) _ f.1 (f.1.length : Int) (m : Int) true w f (0, 0, 0, 0) (nd f m)) (ast_built_2 u (m : Int) (kd f m) (IntKind.i64.wrap ((w.length : Int) - ((kd f m).length : Int))) f.1 (f.1.length : Int) (m : Int) (decide ((IntKind.i64.wrap ((w.length : Int) - ((kd f m).length : Int))) < 0)) w f (0, 0, 0, 0) (nd f m)) = _
  cases ht : (kv (nd f m) f.2).2 with
  | false =>
    rw [Bool.not_false, cond_true, b2, stepF_no (fun h => by have := h.2.1; rw [ht] at this; cases this)]
  | true =>
  have hkl := kd_len f hA m
  rw [Bool.not_true, cond_false, w64 (x := (w.length : Int) - ((kd f m).length : Int)) (by omega) (by omega)]
  by_cases hlen : (kd f m).length ≤ w.length
  case neg =>
    rw [decide_eq_true (by omega), b2, stepF_no (fun h => hlen h.2.2.1)]
  obtain ⟨c, hcw⟩ : ∃ c : Nat, w.length = c + (kd f m).length := ⟨w.length - (kd f m).length, by omega⟩
  have hcc : w.length - (kd f m).length = c := by omega
  rw [decide_eq_false (by omega), show (w.length : Int) - ((kd f m).length : Int) = (c : Int) by omega, ast_built_2_eq, cond_false]
  -- the end of a step
  have b7 : ∀ (u' : Int) (p : Pt), ast_built_7 u' (c : Int) f.1 (f.1.length : Int) (m : Int) w f (0, 0, 0, 0) p = ast_built_1 u' f.1 (f.1.length : Int) ((m + 1 : Nat) : Int) (w.take c ++ [p]) f (0, 0, 0, 0) := fun u' p => by
    have in7 : (decide (0 ≤ (c : Int)) && decide ((c : Int) ≤ (w.length : Int))) = true := by simp; omega
    have room : Nat.ble ((((c : Int).toNat - 0) + [p].length) * 32) 140737488355328 = true := Nat.ble_eq_true_of_le (by rw [Int.toNat_natCast]; simp; omega)
    rw [ast_built_7_eq, cT in7, cT room, wS (by omega), Int.toNat_natCast, Nat.sub_zero]
  have b6 : ∀ u' : Int, ast_built_6 u' (m : Int) (kd f m) (c : Int) f.1 (f.1.length : Int) (m : Int) w f (0, 0, 0, 0) (nd f m) = ast_built_1 u' f.1 (f.1.length : Int) ((m + 1 : Nat) : Int) (nextW f m w) f (0, 0, 0, 0) := fun u' => by
    have in6 : (decide (0 ≤ (c : Int)) && decide ((c : Int) ≤ (w.length : Int))) = true := by simp; omega
    have htk : (w.drop c).take (w.length - c) = topN f m w := by
      rw [List.take_of_length_le (by rw [List.length_drop]; omega)]
      unfold topN; rw [hcc]
    rw [ast_built_6_eq, xLev, Option.bind_some, cT in6, Int.toNat_natCast, htk, xNest _ _ (by unfold topN; rw [List.length_drop]; omega) (fun p hp => by
      have := hb.nest p (List.mem_of_mem_drop hp); omega), Option.bind_some, b7, b7]
    unfold nextW newP
    rw [hcc, show decide (((kd f m).length : Int) > 0) = decide (0 < (kd f m).length) from decide_eq_decide.2 (by omega)]
    cases hz : decide (0 < (kd f m).length) with
    | false => rfl
    | true =>
      have := of_decide_eq_true hz
      rw [cond_true, cT (ix (show c < w.length by omega))]; rfl
  have bE : ∀ q, callN (nd f m) = q → ast_built_5 u (m : Int) (kd f m) (c : Int) f.1 (f.1.length : Int) (m : Int) q w f (0, 0, 0, 0) (nd f m) = cond (!q || decide ((nd f m).2.2.1 = u)) (ast_built_1 (nextU f m u) f.1 (f.1.length : Int) ((m + 1 : Nat) : Int) (nextW f m w) f (0, 0, 0, 0)) (some (PZ, false)) := fun q hq => by
    rw [ast_built_5_eq, b6, b6, nextU, hq]
    cases q with
    | false => rfl
    | true =>
      have := callN_can hc hq
      rw [w64 (x := u + (nd f m).2.2.2.1) (by omega) (by omega)]
      cases decide ((nd f m).2.2.1 = u) <;> rfl
  have bT : cond (decide ((nd f m).1 = 9)) (ast_built_5 u (m : Int) (kd f m) (c : Int) f.1 (f.1.length : Int) (m : Int) (decide ((nd f m).2.2.2.1 > 0)) w f (0, 0, 0, 0) (nd f m)) (ast_built_5 u (m : Int) (kd f m) (c : Int) f.1 (f.1.length : Int) (m : Int) false w f (0, 0, 0, 0) (nd f m)) = cond (!callN (nd f m) || decide ((nd f m).2.2.1 = u)) (ast_built_1 (nextU f m u) f.1 (f.1.length : Int) ((m + 1 : Nat) : Int) (nextW f m w) f (0, 0, 0, 0)) (some (PZ, false)) := by
    cases h9 : decide ((nd f m).1 = 9) with
    | false =>
      have : callN (nd f m) = false := by unfold callN; rw [h9]; rfl
      rw [cond_false, bE false this, this]
    | true =>
      have : callN (nd f m) = decide ((nd f m).2.2.2.1 > 0) := by unfold callN; rw [h9]; rfl
      rw [cond_true, bE _ this, this]
  have loop : ∀ (k' k : Nat), k + k' = (kd f m).length → ((w.drop (c + k)).map (·.1) = (kd f m).drop k → ast_built_4 u (m : Int) (kd f m) (c : Int) f.1 (f.1.length : Int) (m : Int) (kd f m) ((kd f m).length : Int) (k : Int) w f (0, 0, 0, 0) (nd f m) = cond (!callN (nd f m) || decide ((nd f m).2.2.1 = u)) (ast_built_1 (nextU f m u) f.1 (f.1.length : Int) ((m + 1 : Nat) : Int) (nextW f m w) f (0, 0, 0, 0)) (some (PZ, false))) ∧
      (¬ (w.drop (c + k)).map (·.1) = (kd f m).drop k → ast_built_4 u (m : Int) (kd f m) (c : Int) f.1 (f.1.length : Int) (m : Int) (kd f m) ((kd f m).length : Int) (k : Int) w f (0, 0, 0, 0) (nd f m) = some (PZ, false)) := by
    intro k'
    induction k' with
    | zero =>
      intro k hk
      refine ⟨fun _ => ?_, fun hn => ?_⟩
      · rw [ast_built_4_eq, cF (decide_eq_false (by omega))]; exact bT
      · exfalso; apply hn
        rw [List.drop_of_length_le (by omega), List.drop_of_length_le (by omega)]; rfl
    | succ k' ih =>
      intro k hk
      have hkk : k < (kd f m).length := by omega
      have hck : c + k < w.length := by omega
      obtain ⟨i1, i2⟩ := ih (k + 1) (by omega)
      have hdl : (kd f m).drop k = (kd f m).getD k 0 :: (kd f m).drop (k + 1) := by
        rw [List.drop_eq_getElem_cons hkk, List.getD_eq_getElem?_getD, List.getElem?_eq_getElem hkk]; rfl
      have hdw := pdrop hck
      rw [hdw, hdl, List.map_cons]
      have e : ast_built_4 u (m : Int) (kd f m) (c : Int) f.1 (f.1.length : Int) (m : Int) (kd f m) ((kd f m).length : Int) (k : Int) w f (0, 0, 0, 0) (nd f m) = cond (!decide ((w.getD (c + k) PZ).1 = (kd f m).getD k 0)) (some (PZ, false)) (ast_built_4 u (m : Int) (kd f m) (c : Int) f.1 (f.1.length : Int) (m : Int) (kd f m) ((kd f m).length : Int) ((k + 1 : Nat) : Int) w f (0, 0, 0, 0) (nd f m)) := by
        rw [ast_built_4_eq, cT (decide_eq_true (by omega)), cT (ix hkk), show (c : Int) + (k : Int) = ((c + k : Nat) : Int) by omega, w64 (x := ((c + k : Nat) : Int)) (by omega) (by omega), cT (ix hck), Int.toNat_natCast, Int.toNat_natCast, wS (by omega)]; rfl
      rw [e]
      by_cases hx : (w.getD (c + k) PZ).1 = (kd f m).getD k 0
      · rw [cF (by rw [decide_eq_true hx]; rfl)]
        refine ⟨fun h => i1 ?_, fun h => i2 fun h' => h ?_⟩
        · exact (List.cons.inj h).2
        · rw [hx]; congr 1
      · rw [cT (by rw [decide_eq_false hx]; rfl)]
        exact ⟨fun h => absurd (List.cons.inj h).1 hx, fun _ => rfl⟩
  obtain ⟨l1, l2⟩ := loop (kd f m).length 0 (Nat.zero_add _)
  rw [Nat.add_zero, List.drop_zero] at l1 l2
  have htop : w.drop c = topN f m w := by unfold topN; rw [hcc]
  rw [htop] at l1 l2
  by_cases hmt : (topN f m w).map (·.1) = kd f m
  · refine (l1 hmt).trans ?_
    by_cases hcl : callN (nd f m) = true → (nd f m).2.2.1 = u
    · rw [stepF_yes ⟨hc, ht, hlen, hmt, hcl⟩]
      have : (!callN (nd f m) || decide ((nd f m).2.2.1 = u)) = true := by
        cases h : callN (nd f m) with
        | false => rfl
        | true => rw [decide_eq_true (hcl h)]; rfl
      rw [this]; rfl
    · rw [stepF_no fun h => hcl h.2.2.2.2]
      have : (!callN (nd f m) || decide ((nd f m).2.2.1 = u)) = false := by
        cases h : callN (nd f m) with
        | false => exact absurd (fun h' => by rw [h] at h'; cases h') hcl
        | true =>
          by_cases h' : (nd f m).2.2.1 = u
          · exact absurd (fun _ => h') hcl
          · rw [decide_eq_false h']; rfl
      rw [this]; rfl
  · rw [stepF_no fun h => hmt h.2.2.2.1]
    exact l2 hmt
noncomputable def runS (f : Fmu) : Nat → Nat → List Pt → Int → Option (List Pt × Int)
  | _, 0, w, u => some (w, u)
  | m, k + 1, w, u => (stepF f m w u).bind fun s => runS f (m + 1) k s.1 s.2
theorem runS_add (f : Fmu) : ∀ (k m l : Nat) (w : List Pt) (u : Int), runS f m (k + l) w u = (runS f m k w u).bind fun s => runS f (m + k) l s.1 s.2
  | 0, m, l, w, u => by simp [runS]
  | k + 1, m, l, w, u => by
    rw [show k + 1 + l = (k + l) + 1 by omega]
    simp only [runS]
    cases stepF f m w u with
    | none => rfl
    | some s =>
      simp only [Option.bind_some]
      rw [runS_add f k (m + 1) l s.1 s.2, show m + 1 + k = m + (k + 1) by omega]
def finS (f : Fmu) : Option (List Pt × Int) → Pt × Bool
  | none => (PZ, false)
  | some s => cond (decide (s.1.length = 1) && decide (s.2 = (f.2.length : Int))) (s.1.getD 0 PZ, true) (PZ, false)
theorem xRun (f : Fmu) (hf : f.1.length ≤ 400) (hA : f.2.length ≤ 1000) (hs : ∀ n ∈ f.1, n.2.2.2.2.2.1.length ≤ 9223372036854775807) : ∀ (k m : Nat) (w : List Pt) (u : Int), m + k = f.1.length → Bd m w u → ast_built_1 u f.1 (f.1.length : Int) (m : Int) w f (0, 0, 0, 0) = some (finS f (runS f m k w u))
  | 0, m, w, u, h, hb => by
    rw [ast_built_1_eq, cF (decide_eq_false (by omega))]
    simp only [runS, finS]
    have b3 : ∀ q, w.length = 1 → ast_built_3 q w (0, 0, 0, 0) = some (cond q (PZ, false) (w.getD 0 PZ, true)) := fun q hw => by
      rw [ast_built_3_eq, hw]
      cases q <;> rfl
    have b3t : ast_built_3 true w (0, 0, 0, 0) = some (PZ, false) := by rw [ast_built_3_eq, cond_true]; rfl
    rw [b3t, show decide ((w.length : Int) = 1) = decide (w.length = 1) from decide_eq_decide.2 (by omega)]
    by_cases hw : w.length = 1
    · rw [decide_eq_true hw, b3 _ hw]
      cases decide (u = (f.2.length : Int)) <;> rfl
    · rw [decide_eq_false hw]; rfl
  | k + 1, m, w, u, h, hb => by
    rw [xStep f hf hA hs (by omega) hb]
    simp only [runS]
    by_cases ho : okS f m w u
    · rw [stepF_yes ho]
      simp only [Option.bind_some]
      exact xRun f hf hA hs k (m + 1) _ _ (by omega) (hb.step ho)
    · rw [stepF_no ho]; rfl
theorem xBuilt (f : Fmu) (hf : f.1.length ≤ 400) (hA : f.2.length ≤ 1000) (hs : ∀ n ∈ f.1, n.2.2.2.2.2.1.length ≤ 9223372036854775807) : ast_built f = some (finS f (runS f 0 f.1.length [] 0)) := by
  rw [ast_built_eq]
  exact xRun f hf hA hs f.1.length 0 [] 0 (Nat.zero_add _) ⟨by simp, (fun p hp => by cases hp), Int.le_refl _, by omega⟩
end Go.Proofs.YtgnkkanhjghhfaaGreatDoor.D
/- Formulas: the program's parts and the reference's trees are the same; plain Lean over the equations. -/
namespace Go.Proofs.YtgnkkanhjghhfaaGreatDoor.D
open Go Go.Proofs.YtgnkkanhjghhfaaGreatDoor.K
open Go.Proofs.YtgnkkanhjghhfaaGreatDoor.P (wS)
def braB (f : Fmu) (own : Int) (call bin : Bool) (i : Nat) (x : Int) : Bool := !call && (decide (levV (nd f x.toNat) < own) || (bin && (decide (i = 1) && decide (levV (nd f x.toNat) = own))))
def dst (f : Fmu) (own : Int) (call bin : Bool) (out : List Int) : Nat → List Int → Int → Int
  | _, [], d => d
  | i, x :: r, d => dst f own call bin out (i + 1) r (max d (cond (braB f own call bin i x) (out.getD x.toNat 0 + 1) (out.getD x.toNat 0)))
def dvB (f : Fmu) (m : Nat) (out : List Int) : Int := dst f (levV (nd f m)) (decide ((nd f m).1 = 9)) (decide ((nd f m).1 = 8)) out 0 (kd f m) 0
def dv (f : Fmu) (m : Nat) (out : List Int) : Int := cond (decide ((nd f m).1 = 9) || (decide ((nd f m).1 = 7) && decide ((nd f m).2.1 = 13))) (dvB f m out + 1) (dvB f m out)
def dl (f : Fmu) : Nat → List Int
  | 0 => []
  | m + 1 => dl f m ++ [dv f m (dl f m)]
theorem dl_len (f : Fmu) : ∀ m, (dl f m).length = m
  | 0 => rfl
  | m + 1 => by simp [dl, dl_len f m]
theorem dl_get (f : Fmu) : ∀ {m k : Nat}, k < m → (dl f m).getD k 0 = dv f k (dl f k)
  | 0, k, h => by omega
  | m + 1, k, h => by
    simp only [dl]
    rw [List.getD_eq_getElem?_getD]
    by_cases hk : k < m
    · rw [List.getElem?_append_left (by rw [dl_len]; exact hk), ← List.getD_eq_getElem?_getD]
      exact dl_get f hk
    · have : k = m := by omega
      subst this
      rw [List.getElem?_append_right (by rw [dl_len]; exact Nat.le_refl _), dl_len, Nat.sub_self]; rfl
def PtOk (f : Fmu) (m : Nat) (p : Pt) : Prop := ∃ k : Nat, p.1 = (k : Int) ∧ k < m ∧ p.2.2.1 = levV (nd f k) ∧ p.2.2.2 = dv f k (dl f k)
theorem nst_dst {f : Fmu} {m : Nat} {own : Int} {call bin : Bool} : ∀ (ps : List Pt) (i : Nat) (d : Int), (∀ p ∈ ps, PtOk f m p) → (2 ≤ i + ps.length → (call || bin) = true) → nst own call i ps d = dst f own call bin (dl f m) i (ps.map (·.1)) d
  | [], _, _, _, _ => rfl
  | p :: ps, i, d, hp, hb => by
    obtain ⟨k, h1, h2, h3, h4⟩ := hp p (by simp)
    simp only [nst, List.map_cons, dst]
    have e1 : (dl f m).getD p.1.toNat 0 = p.2.2.2 := by rw [h1, Int.toNat_natCast, dl_get f h2, h4]
    have e2 : levV (nd f p.1.toNat) = p.2.2.1 := by rw [h1, Int.toNat_natCast, h3]
    have e3 : deepB own call i p.2.2.1 = braB f own call bin i p.1 := by
      unfold deepB braB
      rw [e2]
      by_cases hi : i = 1
      · have := hb (by simp; omega)
        cases call
        · rw [Bool.false_or] at this; rw [this]; simp
        · rfl
      · rw [decide_eq_false hi]; simp
    rw [e1, e3]
    exact nst_dst ps (i + 1) _ (fun q hq => hp q (by simp [hq])) (fun h => hb (by simp; omega))
theorem lev6 (n : Nd) : decide (levV n = 6) = (decide (n.1 = 7) && decide (n.2.1 = 13)) := by
  unfold levV
  by_cases h7 : n.1 = 7
  · rw [if_pos h7, decide_eq_true h7, Bool.true_and]
    by_cases h13 : n.2.1 = 13
    · rw [if_pos h13, decide_eq_true h13]; rfl
    · rw [if_neg h13, decide_eq_false h13]
      split <;> rfl
  · rw [if_neg h7, decide_eq_false h7, Bool.false_and]
    repeat' (first | rfl | split)
theorem kd_two {f : Fmu} {m : Nat} (h : 2 ≤ (kd f m).length) : (decide ((nd f m).1 = 9) || decide ((nd f m).1 = 8)) = true := by
  unfold kd kv at h
  by_cases h7 : (nd f m).1 = 7
  · rw [decide_eq_true h7] at h; simp at h
  · rw [decide_eq_false h7] at h
    cases h8 : decide ((nd f m).1 = 8)
    · rw [h8] at h
      cases h9 : decide ((nd f m).1 = 9)
      · rw [h9] at h; simp at h
      · rfl
    · simp
theorem nest_dv {f : Fmu} {m : Nat} {ps : List Pt} (hp : ∀ p ∈ ps, PtOk f m p) (hm : ps.map (·.1) = kd f m) : nestV (nd f m) ps = dv f m (dl f m) := by
  have hl : ps.length = (kd f m).length := by rw [← hm, List.length_map]
  unfold nestV dv dvB
  rw [lev6, nst_dst (bin := decide ((nd f m).1 = 8)) ps 0 0 hp (fun h => kd_two (by omega)), hm]
def cls (f : Fmu) : Nat → Option Int
  | 0 => some 0
  | m + 1 => (cls f m).bind fun u => cond (callN (nd f m)) (cond (decide ((nd f m).2.2.1 = u)) (some (u + (nd f m).2.2.2.1)) none) (some u)
theorem cls_none (f : Fmu) {i : Nat} (h : cls f i = none) : ∀ k, cls f (i + k) = none
  | 0 => h
  | k + 1 => by rw [← Nat.add_assoc]; simp only [cls]; rw [cls_none f h k]; rfl
theorem cls_pre (f : Fmu) {n : Nat} {v : Int} (h : cls f n = some v) {i : Nat} (hi : i ≤ n) : ∃ u, cls f i = some u := by
  cases hc : cls f i with
  | some u => exact ⟨u, rfl⟩
  | none =>
    have := cls_none f hc (n - i)
    rw [show i + (n - i) = n by omega, h] at this; cases this
theorem cls_next {f : Fmu} {m : Nat} {u : Int} (h : cls f m = some u) (hc : callN (nd f m) = true → (nd f m).2.2.1 = u) : cls f (m + 1) = some (nextU f m u) := by
  simp only [cls, h, Option.bind_some, nextU]
  cases hb : callN (nd f m) with
  | false => rfl
  | true => rw [decide_eq_true (hc hb)]; rfl
theorem cls_back {f : Fmu} {m : Nat} {u v : Int} (h : cls f m = some u) (h' : cls f (m + 1) = some v) : (callN (nd f m) = true → (nd f m).2.2.1 = u) ∧ v = nextU f m u := by
  simp only [cls, h, Option.bind_some] at h'
  cases hb : callN (nd f m) with
  | false => rw [hb] at h'; exact ⟨fun h => (by cases h), by unfold nextU; rw [hb]; exact (Option.some.inj h').symm⟩
  | true =>
    rw [hb] at h'
    by_cases ha : (nd f m).2.2.1 = u
    · rw [decide_eq_true ha] at h'
      exact ⟨fun _ => ha, by unfold nextU; rw [hb]; exact (Option.some.inj h').symm⟩
    · rw [decide_eq_false ha] at h'; cases h'
theorem callN_len {f : Fmu} {m : Nat} (hc : callN (nd f m) = true) (ht : (kv (nd f m) f.2).2 = true) : ((kd f m).length : Int) = (nd f m).2.2.2.1 := by
  unfold callN at hc
  simp only [Bool.and_eq_true, decide_eq_true_eq] at hc
  obtain ⟨h9, hb⟩ := hc
  unfold kd
  unfold kv at ht ⊢
  rw [decide_eq_false (show ¬ (nd f m).1 = 7 by omega), decide_eq_false (show ¬ (nd f m).1 = 8 by omega), decide_eq_true h9, decide_eq_true hb] at ht ⊢
  simp only [cond_true, cond_false] at ht ⊢
  cases ho : oddK (nd f m) f.2 with
  | true => rw [ho] at ht; cases ht
  | false =>
    have := oddK_false ho
    simp only [cond_false, List.length_drop, List.length_take]
    omega
def sumK (f : Fmu) : Nat → Nat
  | 0 => 0
  | m + 1 => sumK f m + (kd f m).length
theorem Fo.sum {f : Fmu} {a b : Nat} {ks : List Int} (h : Fo (kd f) a b ks) : sumK f b + ks.length = sumK f a + (b - a) := by
  induction h with
  | nil a => simp
  | @cons a k b ks h1 h2 ih1 ih2 =>
    have l1 := h1.le
    have l2 := h2.le
    simp only [sumK] at ih2
    simp only [List.length_cons]
    omega
theorem cls_sum {f : Fmu} : ∀ {m : Nat} {u : Int}, (∀ j, j < m → (kv (nd f j) f.2).2 = true) → cls f m = some u → u ≤ (sumK f m : Int)
  | 0, u, _, h => by cases h; simp [sumK]
  | m + 1, u, ht, h => by
    obtain ⟨v, hv⟩ := cls_pre f h (Nat.le_succ m)
    have ih := cls_sum (fun j hj => ht j (by omega)) hv
    obtain ⟨_, rfl⟩ := cls_back hv h
    unfold nextU
    simp only [sumK]
    cases hb : callN (nd f m) with
    | false => simp only [cond_false]; omega
    | true =>
      have := callN_len hb (ht m (by omega))
      simp only [cond_true]; omega
structure Sd (f : Fmu) (m : Nat) (w : List Pt) (u : Int) : Prop where
  fo : Fo (kd f) 0 m (w.map (·.1))
  pt : ∀ p ∈ w, PtOk f m p
  cl : cls f m = some u
  all : ∀ j, j < m → canV (nd f j) = true ∧ (kv (nd f j) f.2).2 = true
theorem PtOk.up {f : Fmu} {m : Nat} {p : Pt} (h : PtOk f m p) : PtOk f (m + 1) p := by
  obtain ⟨k, h1, h2, h3⟩ := h
  exact ⟨k, h1, by omega, h3⟩
theorem Sd.step {f : Fmu} {m : Nat} {w : List Pt} {u : Int} (h : Sd f m w u) (ho : okS f m w u) : Sd f (m + 1) (nextW f m w) (nextU f m u) := by
  obtain ⟨o1, o2, o3, o4, o5⟩ := ho
  have hw : w = w.take (w.length - (kd f m).length) ++ topN f m w := (List.take_append_drop _ w).symm
  have hfo := h.fo
  rw [hw, List.map_append, o4] at hfo
  obtain ⟨b, f1, f2⟩ := hfo.split
  refine ⟨?_, fun p hp => ?_, cls_next h.cl o5, fun j hj => ?_⟩
  · unfold nextW
    rw [List.map_append]
    exact f1.append (.cons f2 (.nil (m + 1)))
  · unfold nextW at hp
    rw [List.mem_append] at hp
    rcases hp with hp | hp
    · exact (h.pt p (List.mem_of_mem_take hp)).up
    · simp only [List.mem_singleton] at hp
      subst hp
      exact ⟨m, rfl, Nat.lt_succ_self m, rfl, nest_dv (fun p hp => h.pt p (List.mem_of_mem_drop hp)) o4⟩
  · by_cases hjm : j < m
    · exact h.all j hjm
    · have : j = m := by omega
      subst this; exact ⟨o1, o2⟩
theorem Sd.run {f : Fmu} : ∀ (k m : Nat) (w : List Pt) (u : Int), Sd f m w u → ∀ s, runS f m k w u = some s → Sd f (m + k) s.1 s.2
  | 0, m, w, u, h, s, hs => by simp only [runS, Option.some.injEq] at hs; subst hs; exact h
  | k + 1, m, w, u, h, s, hs => by
    simp only [runS] at hs
    by_cases ho : okS f m w u
    · rw [stepF_yes ho] at hs
      have := Sd.run k (m + 1) _ _ (h.step ho) s hs
      rw [show m + (k + 1) = m + 1 + k by omega]; exact this
    · rw [stepF_no ho] at hs; cases hs
structure Good (f : Fmu) : Prop where
  one : 1 ≤ f.1.length
  can : ∀ j, j < f.1.length → canV (nd f j) = true
  told : ∀ j, j < f.1.length → (kv (nd f j) f.2).2 = true
  fo : Fo (kd f) 0 f.1.length [((f.1.length - 1 : Nat) : Int)]
  cl : cls f f.1.length = some (f.2.length : Int)
theorem good_of {f : Fmu} {p : Pt} (h : finS f (runS f 0 f.1.length [] 0) = (p, true)) : Good f ∧ p.2.2.2 = dv f (f.1.length - 1) (dl f (f.1.length - 1)) ∧ p.1 = ((f.1.length - 1 : Nat) : Int) := by
  cases hr : runS f 0 f.1.length [] 0 with
  | none => rw [hr] at h; cases h
  | some s =>
    obtain ⟨w, u⟩ := s
    rw [hr] at h
    simp only [finS] at h
    by_cases hw : w.length = 1
    · by_cases hu : u = (f.2.length : Int)
      · rw [decide_eq_true hw, decide_eq_true hu] at h
        simp only [Bool.and_self, cond_true, Prod.mk.injEq, and_true] at h
        have sd := Sd.run f.1.length 0 [] 0 ⟨.nil 0, (fun p hp => by cases hp), rfl, fun j hj => by omega⟩ (w, u) hr
        rw [Nat.zero_add] at sd
        obtain ⟨q, rfl⟩ : ∃ q, w = [q] := by
          cases w with
          | nil => cases hw
          | cons q w => cases w with
            | nil => exact ⟨q, rfl⟩
            | cons _ _ => simp at hw
        have h : q = p := h
        subst h
        obtain ⟨k, hk1, hk2, hk3, hk4⟩ := sd.pt q (by simp)
        obtain ⟨k', e1, e2, e3⟩ := Fo.one sd.fo
        have hkk : k = k' := by have := hk1.symm.trans e1; omega
        subst hkk
        have hl : f.1.length - 1 = k := by omega
        refine ⟨⟨by omega, fun j hj => (sd.all j hj).1, fun j hj => (sd.all j hj).2, ?_, by rw [← hu]; exact sd.cl⟩, by rw [hl]; exact hk4, by rw [hl]; exact hk1⟩
        rw [hl, ← hk1]; exact sd.fo
      · rw [decide_eq_false hu, Bool.and_false] at h; cases h
    · rw [decide_eq_false hw] at h; cases h
theorem comp {f : Fmu} {n : Nat} {v : Int} (hcan : ∀ j, j < n → canV (nd f j) = true) (htold : ∀ j, j < n → (kv (nd f j) f.2).2 = true) (hcl : cls f n = some v) {a b : Nat} {ks : List Int} (h : Fo (kd f) a b ks) :
    b ≤ n → ∀ (w : List Pt) (u : Int), cls f a = some u → ∃ ps u', runS f a (b - a) w u = some (w ++ ps, u') ∧ ps.map (·.1) = ks ∧ cls f b = some u' := by
  induction h with
  | nil a => intro _ w u hu; exact ⟨[], u, by rw [Nat.sub_self]; simp [runS], rfl, hu⟩
  | @cons a k b ks h1 h2 ih1 ih2 =>
    intro hbn w u hu
    have l1 := h1.le
    have l2 := h2.le
    obtain ⟨ps1, u1, r1, m1, c1⟩ := ih1 (by omega) w u hu
    have hlen : ps1.length = (kd f k).length := by rw [← m1, List.length_map]
    obtain ⟨v2, hv2⟩ := cls_pre f hcl (show k + 1 ≤ n by omega)
    obtain ⟨b1, b2⟩ := cls_back c1 hv2
    have hsub : (w ++ ps1).length - (kd f k).length = w.length := by rw [List.length_append]; omega
    have htop : topN f k (w ++ ps1) = ps1 := by unfold topN; rw [hsub, List.drop_left]
    have ho : okS f k (w ++ ps1) u1 := ⟨hcan k (by omega), htold k (by omega), by rw [List.length_append]; omega, by rw [htop]; exact m1, b1⟩
    obtain ⟨ps2, u2, r2, m2, c2⟩ := ih2 hbn (nextW f k (w ++ ps1)) (nextU f k u1) (by rw [← b2]; exact hv2)
    have hnw : nextW f k (w ++ ps1) = w ++ [newP f k (w ++ ps1)] := by unfold nextW; rw [hsub, List.take_left]
    refine ⟨newP f k (w ++ ps1) :: ps2, u2, ?_, by rw [List.map_cons, m2]; rfl, c2⟩
    rw [show b - a = (k - a) + (1 + (b - (k + 1))) by omega, runS_add, r1, Option.bind_some, show a + (k - a) = k by omega, Nat.add_comm 1, runS, stepF_yes ho, Option.bind_some, r2, hnw, List.append_assoc]
    rfl
theorem of_good {f : Fmu} (h : Good f) : ∃ p, finS f (runS f 0 f.1.length [] 0) = (p, true) := by
  obtain ⟨ps, u', r, m, c⟩ := comp h.can h.told h.cl h.fo (Nat.le_refl _) [] 0 rfl
  rw [Nat.sub_zero] at r
  have hu : u' = (f.2.length : Int) := by have := c.symm.trans h.cl; exact Option.some.inj this
  have hl : ps.length = 1 := by have := congrArg List.length m; simpa using this
  refine ⟨ps.getD 0 PZ, ?_⟩
  rw [r]
  simp only [finS, List.nil_append]
  rw [decide_eq_true hl, decide_eq_true hu]; rfl
theorem Good.args {f : Fmu} (h : Good f) : f.2.length ≤ f.1.length := by
  have := h.fo.sum
  have h2 := cls_sum h.told h.cl
  have := h.one
  simp only [List.length_singleton, sumK] at *
  omega
end Go.Proofs.YtgnkkanhjghhfaaGreatDoor.D
/- AstTells: which formulas can be, kids, depth, and sameness; plain Lean over the equations. -/
namespace Go.Proofs.YtgnkkanhjghhfaaGreatDoor.D
open Go Go.Proofs.YtgnkkanhjghhfaaGreatDoor.K
open Go.Proofs.YtgnkkanhjghhfaaGreatDoor.P (wS)
theorem eqOr_same {α : Type} (a : Option α) : eqOr a a = a := by unfold eqOr; exact if_pos rfl
theorem Fo.at {kd : Nat → List Int} {a b : Nat} {ks : List Int} (h : Fo kd a b ks) : ∀ j, a ≤ j → j < b → ∃ a', Fo kd a' j (kd j) := by
  induction h with
  | nil a => intro j h1 h2; omega
  | @cons a k b ks f1 f2 ih1 ih2 =>
    intro j h1 h2
    by_cases hj : j < k
    · exact ih1 j h1 hj
    · by_cases he : j = k
      · subst he; exact ⟨a, f1⟩
      · exact ih2 j (by omega) h2
theorem Good.kid {f : Fmu} (g : Good f) {i : Nat} (hi : i < f.1.length) {k : Nat} (hk : k < (kd f i).length) : ∃ j : Nat, (kd f i).getD k 0 = (j : Int) ∧ j < i := by
  obtain ⟨a, fo⟩ := g.fo.at i (Nat.zero_le _) hi
  obtain ⟨j, h1, _, h2⟩ := fo.mem ((kd f i).getD k 0) (by rw [List.getD_eq_getElem?_getD, List.getElem?_eq_getElem hk]; exact List.getElem_mem hk)
  exact ⟨j, h1, h2⟩
def Dp (f : Fmu) : Int := dv f (f.1.length - 1) (dl f (f.1.length - 1))
def Fine (f : Fmu) : Prop := Good f ∧ f.1.length ≤ 300 ∧ Dp f ≤ 24
structure Lt (f : Fmu) : Prop where
  n : f.1.length ≤ 320
  a : f.2.length ≤ 400
  t : ∀ n ∈ f.1, n.2.2.2.2.2.1.length ≤ 9223372036854775807
theorem xWhole (f : Fmu) (hL : Lt f) : ∃ p b, ast_whole f = some (p, b) ∧ (b = true ↔ Fine f) ∧ (b = true → p.2.2.2 = Dp f) := by
  have hn := hL.n
  have ha := hL.a
  rw [ast_whole_eq]
  by_cases h : f.1.length ≤ 300
  · rw [cF (decide_eq_false (by omega)), xBuilt f (by omega) (by omega) hL.t, Option.bind_some]
    cases hr : finS f (runS f 0 f.1.length [] 0) with
    | mk p b =>
      cases b with
      | false =>
        refine ⟨p, false, rfl, ⟨fun h => (by cases h), fun g => ?_⟩, fun h => (by cases h)⟩
        obtain ⟨q, hq⟩ := of_good g.1
        rw [hr] at hq
        simp at hq
      | true =>
        obtain ⟨g, e1, e2⟩ := good_of hr
        refine ⟨p, decide (p.2.2.2 ≤ 24), rfl, ⟨fun hd => ⟨g, h, ?_⟩, fun hF => decide_eq_true ?_⟩, fun _ => e1⟩
        · have := of_decide_eq_true hd; rw [e1] at this; exact this
        · rw [e1]; exact hF.2.2
  · rw [cT (decide_eq_true (by omega))]
    exact ⟨_, false, rfl, ⟨fun h => (by cases h), fun g => absurd g.2.1 h⟩, fun h => (by cases h)⟩
theorem xRightP (f : Fmu) (hL : Lt f) : ∃ b, ast_Right f = some b ∧ (b = true ↔ Fine f) := by
  obtain ⟨p, b, h1, h2, _⟩ := xWhole f hL
  exact ⟨b, by rw [ast_Right_eq, h1]; rfl, h2⟩
theorem xClone (l : List Int) (hl : l.length ≤ 1000) : slices_Clone_int_int l = some l := by
  have room : Nat.ble ((([] : List Int).length + l.length) * 8) 140737488355328 = true := Nat.ble_eq_true_of_le (by simp; omega)
  rw [slices_Clone_int_int_eq]
  cases l with
  | nil => rw [cF (decide_eq_false (by simp)), slices_Clone_int_int_2_eq]; exact eqOr_same _
  | cons x l => rw [cT (decide_eq_true (by simp)), slices_Clone_int_int_1_eq, cond_false, cT room]; rfl
def eN (a b : List Nd) : Nat → Nat → Bool
  | _, 0 => true
  | i, m + 1 => eqC (a.getD i ZN) (b.getD i ZN) && eN a b (i + 1) m
def eI (a b : List Int) : Nat → Nat → Bool
  | _, 0 => true
  | i, m + 1 => decide (a.getD i 0 = b.getD i 0) && eI a b (i + 1) m
theorem eN_self (a : List Nd) : ∀ m i, eN a a i m = true
  | 0, _ => rfl
  | m + 1, i => by simp only [eN]; rw [(eqC_eq _ _).2 rfl, eN_self a m]; rfl
theorem eI_self (a : List Int) : ∀ m i, eI a a i m = true
  | 0, _ => rfl
  | m + 1, i => by simp only [eI]; rw [eI_self a m]; simp
def sameV (a b : Fmu) : Bool := decide (a.1.length = b.1.length) && (decide (a.2.length = b.2.length) && (eN a.1 b.1 0 a.1.length && eI a.2 b.2 0 a.2.length))
theorem sameV_self (a : Fmu) : sameV a a = true := by unfold sameV; rw [decide_eq_true rfl, decide_eq_true rfl, eN_self, eI_self]; rfl
theorem ySame3 (a b : Fmu) (hl : a.2.length = b.2.length) (h4 : a.2.length ≤ 1000) : ∀ (m i : Nat), i + m = a.2.length → abacistref13_Same_3 (i : Int) a b = some (eI a.2 b.2 i m)
  | 0, i, h => by rw [abacistref13_Same_3_eq, cF (decide_eq_false (by omega))]; rfl
  | m + 1, i, h => by
    have hi : i < a.2.length := by omega
    rw [abacistref13_Same_3_eq, cT (decide_eq_true (by omega)), cT (ix hi), cT (ix (show i < b.2.length by omega)), Int.toNat_natCast, wS (by omega), ySame3 a b hl h4 m (i + 1) (by omega)]
    show cond (!decide (a.2.getD i 0 = b.2.getD i 0)) (some false) _ = some (decide (a.2.getD i 0 = b.2.getD i 0) && _)
    cases decide (a.2.getD i 0 = b.2.getD i 0) <;> rfl
theorem ySame2 (a b : Fmu) (hl : a.1.length = b.1.length) (hl2 : a.2.length = b.2.length) (h4 : a.1.length ≤ 1000) (h5 : a.2.length ≤ 1000) : ∀ (m i : Nat), i + m = a.1.length → abacistref13_Same_2 (i : Int) a b = some (eN a.1 b.1 i m && eI a.2 b.2 0 a.2.length)
  | 0, i, h => by rw [abacistref13_Same_2_eq, cF (decide_eq_false (by omega)), show (0 : Int) = ((0 : Nat) : Int) from rfl, ySame3 a b hl2 h5 a.2.length 0 (Nat.zero_add _)]; rfl
  | m + 1, i, h => by
    have hi : i < a.1.length := by omega
    rw [abacistref13_Same_2_eq, cT (decide_eq_true (by omega)), cT (ix hi), cT (ix (show i < b.1.length by omega)), Int.toNat_natCast, wS (by omega), ySame2 a b hl hl2 h4 h5 m (i + 1) (by omega)]
    show cond (!eqC (a.1.getD i ZN) (b.1.getD i ZN)) (some false) _ = some ((eqC (a.1.getD i ZN) (b.1.getD i ZN) && _) && _)
    cases eqC (a.1.getD i ZN) (b.1.getD i ZN) <;> rfl
theorem ySame (a b : Fmu) (h1 : a.1.length ≤ 1000) (h2 : a.2.length ≤ 1000) : abacistref13_Same a b = some (sameV a b) := by
  have bad : abacistref13_Same_1 true a b = some false := by rw [abacistref13_Same_1_eq, cond_true]
  rw [abacistref13_Same_eq, bad, sameV]
  rw [show decide ((a.1.length : Int) = (b.1.length : Int)) = decide (a.1.length = b.1.length) from decide_eq_decide.2 (by omega), show decide ((a.2.length : Int) = (b.2.length : Int)) = decide (a.2.length = b.2.length) from decide_eq_decide.2 (by omega)]
  by_cases hn : a.1.length = b.1.length
  · rw [decide_eq_true hn, Bool.not_true, cond_false]
    by_cases hi : a.2.length = b.2.length
    · rw [decide_eq_true hi, Bool.not_true, abacistref13_Same_1_eq, cond_false, show (0 : Int) = ((0 : Nat) : Int) from rfl, ySame2 a b hn hi h1 h2 a.1.length 0 (Nat.zero_add _)]; rfl
    · rw [decide_eq_false hi, Bool.not_false, bad]; rfl
  · rw [decide_eq_false hn]; rfl
end Go.Proofs.YtgnkkanhjghhfaaGreatDoor.D
