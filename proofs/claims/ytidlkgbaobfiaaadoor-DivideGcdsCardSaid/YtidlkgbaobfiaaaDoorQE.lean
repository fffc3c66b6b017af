/- The laws of quotients and of greatest common divisors. -/
import Derived.Test.YtidlkgbaobfiaaaDoorQB
import Derived.Test.YtidlkgbaobfiaaaDoorKR
set_option linter.unusedVariables false
set_option linter.unusedSimpArgs false
namespace Go.Proofs.YtidlkgbaobfiaaaDoor.P
open Go Go.Proofs.YtidlkgbaobfiaaaDoor.K
theorem known : abacistlaw02_known = some true := of_depth 200 (by kernel_rfl)
theorem refTrimN (s : List UInt8) (h : s.length ≤ 1000000000) : abacistref01_Trim s = some (nat (val s)) := refTrim s (by omega)
theorem mods (a b : List UInt8) (ha : a.length ≤ 150) (hb : b.length ≤ 150) : abacistlaw02_DivideMods_1 a b false = some true := by
  rw [abacistlaw02_DivideMods_1_eq, cond_false, divDivMod a b (by omega) (by omega), refDivMod a b (by omega) (by omega), Option.bind_some, Option.bind_some]
  have t : ∀ x : List UInt8 × List UInt8 × Int, abacistlaw02_DivideMods_2 a b x.1 x.2.1 x.2.2 false = some true → (cond (!decide (x.1 = x.1)) (abacistlaw02_DivideMods_2 a b x.1 x.2.1 x.2.2 true) (cond (!decide (x.2.1 = x.2.1)) (abacistlaw02_DivideMods_2 a b x.1 x.2.1 x.2.2 true) (abacistlaw02_DivideMods_2 a b x.1 x.2.1 x.2.2 (!decide (x.2.2 = x.2.2))))) = some true := fun x h => by
    simp only [decide_true, Bool.not_true, cond_false]; exact h
  refine t _ ?_
  rw [abacistlaw02_DivideMods_2_eq, cond_false, divmod]
  by_cases h0 : val b = 0
  · rw [if_pos h0]
    simp only
    rw [cT (by rfl), known]; rfl
  · have hq : (nat (val a / val b)).length ≤ (nat (val a)).length := len_mono (Nat.div_le_self _ _)
    have la := nat_val_length a
    have lb := nat_val_length b
    have hm := Nat.mod_lt (val a) (show 0 < val b by omega)
    have hr := len_mono (Nat.le_of_lt hm)
    have hmul : (nat (val a / val b * val b)).length ≤ (nat (val a)).length := len_mono (Nat.div_mul_le_self _ _)
    rw [if_neg h0]
    simp only
    rw [cF (by rfl), refMul _ _ (by omega) (by omega), Option.bind_some, val_nat, refAdd _ _ (by omega) (by omega), Option.bind_some, val_nat, val_nat, refTrim a (by omega), Option.bind_some, show val a / val b * val b + val a % val b = val a by rw [Nat.mul_comm]; exact Nat.div_add_mod ..,
      cT (decide_eq_true rfl), refCmp _ _ (by omega) (by omega), Option.bind_some, val_nat, cT (decide_eq_true (sgnv_neg.2 hm)), known]; rfl
theorem gcds (a b : List UInt8) (ha : a.length ≤ 40) (hb : b.length ≤ 40) : abacistlaw02_DivideGcds_1 a b false = some true := by
  have la := nat_val_length a
  have lb := nat_val_length b
  rw [abacistlaw02_DivideGcds_1_eq, cond_false, divGcd a b (by omega) (by omega), refGcd a b (by omega) (by omega), Option.bind_some, Option.bind_some, cF (by rw [decide_eq_true rfl]; rfl)]
  by_cases h0 : Nat.gcd (val a) (val b) = 0
  · have h1 := Nat.eq_zero_of_gcd_eq_zero_left h0
    have h2 := Nat.eq_zero_of_gcd_eq_zero_right h0
    rw [cT (decide_eq_true (nat_eq_nil.2 h0)), refTrim a (by omega), refTrim b (by omega), Option.bind_some, Option.bind_some, h1, h2, nat_zero, cT (by rfl), cT (by rfl), known]; rfl
  · have hpos : 0 < Nat.gcd (val a) (val b) := by omega
    have hn : ¬ nat (Nat.gcd (val a) (val b)) = [] := fun e => h0 (nat_eq_nil.1 e)
    have lg : (nat (Nat.gcd (val a) (val b))).length ≤ 40 := by
      rcases Nat.eq_zero_or_pos (val a) with h | h
      · rw [h, Nat.gcd_zero_left]; omega
      · exact Nat.le_trans (len_mono (Nat.le_of_dvd h (Nat.gcd_dvd_left ..))) (by omega)
    have q1 : (nat (val a / Nat.gcd (val a) (val b))).length ≤ 40 := Nat.le_trans (len_mono (Nat.div_le_self _ _)) (by omega)
    have q2 : (nat (val b / Nat.gcd (val a) (val b))).length ≤ 40 := Nat.le_trans (len_mono (Nat.div_le_self _ _)) (by omega)
    have d1 : val a % Nat.gcd (val a) (val b) = 0 := Nat.mod_eq_zero_of_dvd (Nat.gcd_dvd_left ..)
    have d2 : val b % Nat.gcd (val a) (val b) = 0 := Nat.mod_eq_zero_of_dvd (Nat.gcd_dvd_right ..)
    rw [cF (decide_eq_false hn), divDivMod a _ (by omega) (by omega), Option.bind_some, divDivMod b _ (by omega) (by omega), Option.bind_some, val_nat, divmod, divmod, if_neg h0, if_neg h0]
    simp only
    rw [d1, d2, nat_zero, cT (by rfl), cT (by rfl), divGcd _ _ (by omega) (by omega), Option.bind_some, val_nat, val_nat, Nat.gcd_div (Nat.gcd_dvd_left ..) (Nat.gcd_dvd_right ..), Nat.div_self hpos, cT (by rfl), known]; rfl
end Go.Proofs.YtidlkgbaobfiaaaDoor.P
namespace Go.Proofs.YtidlkgbaobfiaaaDoor.K
open Go Go.Proofs.YtidlkgbaobfiaaaDoor.P
theorem DivideMods (a : List UInt8) (_ : Wf .str a) (b : List UInt8) (_ : Wf .str b) : abacistlaw02_DivideMods a b = some true := by
  rw [abacistlaw02_DivideMods_eq]
  have k : abacistlaw02_DivideMods_1 a b true = some true := by rw [abacistlaw02_DivideMods_1_eq, cond_true, P.known]; rfl
  by_cases h1 : (a.length : Int) > 150
  · rw [cT (decide_eq_true h1), k]
  · rw [cF (decide_eq_false h1)]
    by_cases h2 : (b.length : Int) > 150
    · rw [decide_eq_true h2, k]
    · rw [decide_eq_false h2, mods a b (by omega) (by omega)]
theorem DivideGcds (a : List UInt8) (_ : Wf .str a) (b : List UInt8) (_ : Wf .str b) : abacistlaw02_DivideGcds a b = some true := by
  rw [abacistlaw02_DivideGcds_eq]
  have k : abacistlaw02_DivideGcds_1 a b true = some true := by rw [abacistlaw02_DivideGcds_1_eq, cond_true, P.known]; rfl
  by_cases h1 : (a.length : Int) > 40
  · rw [cT (decide_eq_true h1), k]
  · rw [cF (decide_eq_false h1)]
    by_cases h2 : (b.length : Int) > 40
    · rw [decide_eq_true h2, k]
    · rw [decide_eq_false h2, gcds a b (by omega) (by omega)]
end Go.Proofs.YtidlkgbaobfiaaaDoor.K
