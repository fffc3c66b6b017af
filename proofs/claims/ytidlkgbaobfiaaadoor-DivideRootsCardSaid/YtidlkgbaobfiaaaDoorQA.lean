/- Greatest common divisors: the program's, the reference's. -/
import Derived.Test.YtidlkgbaobfiaaaDoorPG
set_option linter.unusedVariables false
set_option linter.unusedSimpArgs false
namespace Go.Proofs.YtidlkgbaobfiaaaDoor.P
open Go Go.Proofs.YtidlkgbaobfiaaaDoor.K
theorem pow_256 (k : Nat) : 256 ^ k = 2 ^ (8 * k) := by rw [show (256 : Nat) = 2 ^ 8 by decide, ← Nat.pow_mul]
theorem gcd_step (a b : Nat) : Nat.gcd a b = Nat.gcd b (a % b) := by rw [Nat.gcd_comm a b, Nat.gcd_rec, Nat.gcd_comm]
theorem divGcd1 : ∀ (n a b : Nat), b ≤ n → (nat a).length ≤ 1000000000 → (nat b).length ≤ 1000000000 → divide_Gcd_1 (nat a) (nat b) = some (nat (Nat.gcd a b))
  | n, a, b, h, ha, hb => by
    by_cases h0 : b = 0
    · subst h0
      rw [divide_Gcd_1_eq, nat_zero, cF (by rfl), Nat.gcd_zero_right]
    · match n with
      | 0 => omega
      | n + 1 =>
        have hm := Nat.mod_lt a (show 0 < b by omega)
        rw [divide_Gcd_1_eq, cT (by rw [decide_eq_false (fun e => h0 (nat_eq_nil.1 e))]; rfl), divDivMod _ _ ha hb, Option.bind_some, val_nat, val_nat, divmod, if_neg h0]
        simp only
        rw [cF (by rfl), divGcd1 n b (a % b) (by omega) hb (Nat.le_trans (len_mono (Nat.le_of_lt hm)) hb), ← gcd_step]
theorem divGcd (a b : List UInt8) (ha : a.length ≤ 1000000000) (hb : b.length ≤ 1000000000) : divide_Gcd a b = some (nat (Nat.gcd (val a) (val b))) := by
  have la := nat_val_length a
  have lb := nat_val_length b
  rw [divide_Gcd_eq, natTrim, Option.bind_some, natTrim, Option.bind_some, divGcd1 _ _ _ (Nat.le_refl _) (by omega) (by omega)]
theorem refMod (a b : Nat) (ha : (nat a).length ≤ 1000000000) (hb : (nat b).length ≤ 1000000000) (h : b ≠ 0) : abacistref02_Mod (nat a) (nat b) = some (nat (a % b)) := by
  rw [abacistref02_Mod_eq, refDivMod _ _ ha hb, val_nat, val_nat, divmod, if_neg h]; rfl
theorem refGcd0 (s : List UInt8) (i : Int) : abacistref02_Gcd_1 s [] i = some s := by
  rw [abacistref02_Gcd_1_eq]
  have e : (!decide (([] : List UInt8) = [])) = false := rfl
  rw [e]
  cases decide (i < 20000)
  · rw [cond_false, abacistref02_Gcd_2_eq, cond_false]
  · rw [cond_true, abacistref02_Gcd_2_eq, cond_false]
theorem refGcdS (a b i : Nat) (ha : (nat a).length ≤ 1000000000) (hb : (nat b).length ≤ 1000000000) (h : b ≠ 0) (hi : i < 20000) : abacistref02_Gcd_1 (nat a) (nat b) (i : Int) = abacistref02_Gcd_1 (nat b) (nat (a % b)) ((i + 1 : Nat) : Int) := by
  rw [abacistref02_Gcd_1_eq, cT (decide_eq_true (by omega)), decide_eq_false (fun e => h (nat_eq_nil.1 e)), abacistref02_Gcd_2_eq, cT (by rfl), refMod a b ha hb h, Option.bind_some, wS (by omega)]
theorem refGcd1 : ∀ (k a b i : Nat), b < 2 ^ k → i + 2 * k ≤ 19999 → (nat a).length ≤ 1000000000 → (nat b).length ≤ 1000000000 → abacistref02_Gcd_1 (nat a) (nat b) (i : Int) = some (nat (Nat.gcd a b))
  | k, a, b, i, hb, hi, la, lb => by
    by_cases h0 : b = 0
    · subst h0; rw [nat_zero, refGcd0, Nat.gcd_zero_right]
    · match k with
      | 0 => simp at hb; omega
      | k + 1 =>
        have hm := Nat.mod_lt a (show 0 < b by omega)
        have lm := Nat.le_trans (len_mono (Nat.le_of_lt hm)) lb
        rw [refGcdS a b i la lb h0 (by omega), gcd_step]
        by_cases h1 : a % b = 0
        · rw [h1, nat_zero, refGcd0, Nat.gcd_zero_right]
        · have hm2 := Nat.mod_lt b (show 0 < a % b by omega)
          have hd := Nat.div_add_mod b (a % b)
          have hp : 0 < b / (a % b) := Nat.div_pos (Nat.le_of_lt hm) (by omega)
          have hq : a % b * 1 ≤ a % b * (b / (a % b)) := Nat.mul_le_mul_left _ hp
          rw [refGcdS b (a % b) (i + 1) lb lm h1 (by omega), gcd_step]
          exact refGcd1 k (a % b) (b % (a % b)) (i + 1 + 1) (by rw [Nat.pow_succ] at hb; omega) (by omega) lm (Nat.le_trans (len_mono (Nat.le_of_lt hm2)) lm)
theorem refGcd (a b : List UInt8) (ha : a.length ≤ 1000) (hb : b.length ≤ 1000) : abacistref02_Gcd a b = some (nat (Nat.gcd (val a) (val b))) := by
  have la := nat_val_length a
  have lb := nat_val_length b
  have hv := val_lt b
  rw [pow_256] at hv
  have := refGcd1 (8 * b.length) (val a) (val b) 0 hv (by omega) (by omega) (by omega)
  rw [abacistref02_Gcd_eq, refTrim _ (by omega), Option.bind_some, refTrim _ (by omega), Option.bind_some]
  exact this
end Go.Proofs.YtidlkgbaobfiaaaDoor.P
