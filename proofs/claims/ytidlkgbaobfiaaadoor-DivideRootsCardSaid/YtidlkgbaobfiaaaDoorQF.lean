/- The laws of powers and shifts, and of roots. -/
import Derived.Test.YtidlkgbaobfiaaaDoorQC
import Derived.Test.YtidlkgbaobfiaaaDoorQD
import Derived.Test.YtidlkgbaobfiaaaDoorKR
set_option linter.unusedVariables false
set_option linter.unusedSimpArgs false
namespace Go.Proofs.YtidlkgbaobfiaaaDoor.P
open Go Go.Proofs.YtidlkgbaobfiaaaDoor.K
theorem known' : abacistlaw02_known = some true := of_depth 200 (by kernel_rfl)
theorem pows (a : List UInt8) (n b : Int) (ha : a.length ≤ 60) (hn : n ≤ 9000) (hb : b ≤ 9223372036854775807) : abacistlaw02_DividePows_1 a n b false = some true := by
  rw [abacistlaw02_DividePows_1_eq, cond_false, divPow a (by omega) n hn, refPow a (by omega) n hn, divShl a (by omega) b, refShl a (by omega) b, Option.bind_some, Option.bind_some, Option.bind_some, Option.bind_some, cT (decide_eq_true rfl), cT (decide_eq_true rfl), cT (decide_eq_true rfl), cT (decide_eq_true rfl),
    divShr a (by omega) b hb, refShr a (by omega) b hb, Option.bind_some, Option.bind_some, cT (decide_eq_true rfl), known']; rfl
theorem roots (a : List UInt8) (ha : a.length ≤ 60) : abacistlaw02_DivideRoots a = some true := by
  obtain ⟨r, e, hr⟩ := divRoot a (by omega)
  obtain ⟨s, e2, hs⟩ := refRoot a (by omega)
  obtain rfl := hr.eq hs
  have la := nat_val_length a
  have hra : r ≤ val a := by
    have h3 : r ≤ r * r ∨ r = 0 := by
      rcases Nat.eq_zero_or_pos r with h | h
      · exact .inr h
      · exact .inl (Nat.le_mul_of_pos_right _ h)
    have := hr.1
    rcases h3 with h3 | h3 <;> omega
  have lr := len_mono hra
  have l1 : (nat (r + 1)).length ≤ 61 := by
    refine nat_length_le ?_
    have h1 := val_lt a
    have h2 : 256 ^ a.length ≤ 256 ^ 60 := Nat.pow_le_pow_right (by decide) ha
    rw [show 61 = 60 + 1 by omega, Nat.pow_succ]
    generalize 256 ^ 60 = P at *
    generalize 256 ^ a.length = P2 at *
    omega
  have lm : ∀ x y : Nat, (nat x).length ≤ 100 → (nat y).length ≤ 100 → (nat (x * y)).length ≤ 200 := fun x y hx hy => by
    have h1 := val_lt (nat x)
    have h2 := val_lt (nat y)
    rw [val_nat] at h1 h2
    have h3 : 256 ^ (nat x).length ≤ 256 ^ 100 := Nat.pow_le_pow_right (by decide) hx
    have h4 : 256 ^ (nat y).length ≤ 256 ^ 100 := Nat.pow_le_pow_right (by decide) hy
    refine nat_length_le ?_
    rw [show 200 = 100 + 100 by omega, Nat.pow_add]
    exact Nat.mul_lt_mul'' (by omega) (by omega)
  have hlen : (nat (val a * val a)).length ≤ 200 := lm _ _ (by omega) (by omega)
  obtain ⟨t, e3, ht⟩ := divRoot (nat (val a * val a)) (by omega)
  rw [val_nat] at ht
  have h3 : IsRoot (val a) (val a * val a) := ⟨Nat.le_refl _, Nat.mul_lt_mul'' (Nat.lt_succ_self _) (Nat.lt_succ_self _)⟩
  obtain rfl := h3.eq ht
  have hadd : abacistref01_Add (nat r) [1] = some (nat (r + 1)) := by
    rw [refAdd _ _ (by omega) (by simp), val_nat]; rfl
  have hm1 := lm r r (by omega) (by omega)
  have hm2 := lm (r + 1) (r + 1) (by omega) (by omega)
  rw [abacistlaw02_DivideRoots_eq, cF (decide_eq_false (by omega)), e, Option.bind_some, hadd, Option.bind_some, e2, Option.bind_some, cT (decide_eq_true rfl), refMul _ _ (by omega) (by omega), Option.bind_some, val_nat, refCmp _ _ (by omega) (by omega), Option.bind_some, val_nat, cT (decide_eq_true (sgnv_le hr.1)),
    refMul _ _ (by omega) (by omega), Option.bind_some, val_nat, refCmp _ _ (by omega) (by omega), Option.bind_some, val_nat, cT (decide_eq_true (sgnv_gt hr.2)), refMul a a (by omega) (by omega), Option.bind_some, e3, Option.bind_some, refTrim a (by omega), Option.bind_some, cT (decide_eq_true rfl), known']; rfl
end Go.Proofs.YtidlkgbaobfiaaaDoor.P
namespace Go.Proofs.YtidlkgbaobfiaaaDoor.K
open Go Go.Proofs.YtidlkgbaobfiaaaDoor.P
theorem DividePows (a : List UInt8) (_ : Wf .str a) (n : Int) (_ : Wf (.int .i64) n) (b : Int) (hb : Wf (.int .i64) b) : abacistlaw02_DividePows a n b = some true := by
  have hb2 : b ≤ 9223372036854775807 := by
    have h : (decide (IntKind.i64.min ≤ b) && decide (b ≤ IntKind.i64.max)) = true := hb
    exact of_decide_eq_true (Bool.and_eq_true_iff.1 h).2
  rw [abacistlaw02_DividePows_eq]
  have k : abacistlaw02_DividePows_1 a n b true = some true := by rw [abacistlaw02_DividePows_1_eq, cond_true, P.known']; rfl
  by_cases h1 : (a.length : Int) > 60
  · rw [cT (decide_eq_true h1), k]
  · rw [cF (decide_eq_false h1)]
    by_cases h2 : n > 9000
    · rw [decide_eq_true h2, k]
    · rw [decide_eq_false h2, pows a n b (by omega) (by omega) hb2]
theorem DivideRoots (a : List UInt8) (_ : Wf .str a) : abacistlaw02_DivideRoots a = some true := by
  by_cases h1 : (a.length : Int) > 60
  · rw [abacistlaw02_DivideRoots_eq, cT (decide_eq_true h1), P.known']; rfl
  · exact roots a (by omega)
end Go.Proofs.YtidlkgbaobfiaaaDoor.K
