/- Powers: the program's, the reference's. -/
import Derived.Test.YtidlkgbaobfiaaaDoorQB
set_option linter.unusedVariables false
set_option linter.unusedSimpArgs false
namespace Go.Proofs.YtidlkgbaobfiaaaDoor.P
open Go Go.Proofs.YtidlkgbaobfiaaaDoor.K
def powV (A n : Nat) : List UInt8 × Int := if (nat (A ^ n)).length > 1024 then ([], 9) else (nat (A ^ n), 0)
def powR (A : Nat) (n : Int) : List UInt8 × Int := if n < 0 then ([], 2) else if n = 0 then ([1], 0) else if A = 0 ∨ A = 1 then (nat A, 0) else powV A n.toNat
theorem nat_one : nat 1 = [1] := rfl
theorem powV_big {A n m : Nat} (hA : 0 < A) (h : m ≤ n) (hl : (nat (A ^ m)).length > 1024) : powV A n = ([], 9) := by
  have := len_mono (Nat.pow_le_pow_right hA h)
  rw [powV, if_pos (by omega)]
theorem bit_at (n j : Nat) (hn : n ≤ 9000) (hj : j < 63) : bitop .and .i64 ((n : Int).fdiv (2 ^ min (j : Int).toNat IntKind.i64.bits)) 1 = ((n / 2 ^ j % 2 : Nat) : Int) := by
  have hp : (2 : Int) ^ min (j : Int).toNat IntKind.i64.bits = ((2 ^ j : Nat) : Int) := by
    rw [Int.toNat_natCast, show IntKind.i64.bits = 64 from rfl, Nat.min_eq_left (by omega)]; simp
  have hq : n / 2 ^ j ≤ n := Nat.div_le_self _ _
  have hpos : 0 < 2 ^ j := Nat.two_pow_pos j
  rw [hp, fd (by omega), ← Int.natCast_ediv]
  generalize n / 2 ^ j = q at hq
  have := bits_mask .i64 63 (by decide) wraps_i64 1 (by decide) (q : Int) (by omega) (by omega)
  exact this.trans (by omega)
theorem half_at (n j : Nat) : n / 2 ^ j = 2 * (n / 2 ^ (j + 1)) + n / 2 ^ j % 2 := by
  rw [Nat.pow_succ, ← Nat.div_div_eq_div_mul]
  omega
theorem divPow2 (A n : Nat) (hA : 0 < A) (hn : n ≤ 9000) (lA : (nat A).length ≤ 1024) : ∀ (j : Nat), j ≤ 60 → (nat (A ^ (n / 2 ^ j))).length ≤ 1024 → divide_Pow_2 (nat A) (n : Int) ((j : Int) - 1) (nat (A ^ (n / 2 ^ j))) = some (powV A n)
  | 0, hj, hl => by
    rw [divide_Pow_2_eq, cF (decide_eq_false (by omega)), powV]
    simp only [Nat.pow_zero, Nat.div_one] at hl ⊢
    rw [if_neg (by omega)]
  | j + 1, hj, hl => by
    have hh := half_at n j
    have hle : n / 2 ^ j ≤ n := Nat.div_le_self _ _
    have sq : A ^ (n / 2 ^ (j + 1)) * A ^ (n / 2 ^ (j + 1)) = A ^ (2 * (n / 2 ^ (j + 1))) := by rw [← Nat.pow_add]; congr 1; omega
    have over : ∀ (p : List UInt8), divide_Pow_4 (nat A) (n : Int) (j : Int) true p = some ([], 9) := fun p => by rw [divide_Pow_4_eq, cond_true]
    have next : ∀ (m : Nat), m = n / 2 ^ j → (nat (A ^ m)).length ≤ 1024 → divide_Pow_4 (nat A) (n : Int) (j : Int) false (nat (A ^ m)) = some (powV A n) := fun m hm hlm => by
      subst hm
      rw [divide_Pow_4_eq, cond_false, wrap64 (by omega) (by omega)]
      exact divPow2 A n hA hn lA j (by omega) hlm
    rw [divide_Pow_2_eq, show (((j + 1 : Nat) : Int) - 1) = (j : Int) by omega, cT (decide_eq_true (by omega)), divide_Pow_3_eq, natMul _ _ (by omega) (by omega), Option.bind_some, val_nat, sq, bit_at n j hn (by omega)]
    by_cases hg : (nat (A ^ (2 * (n / 2 ^ (j + 1))))).length ≤ 1024
    · rw [cF (by rw [decide_eq_true (by omega)]; rfl), cT (decide_eq_true (by omega))]
      have hb := Nat.mod_lt (n / 2 ^ j) (show 0 < 2 by decide)
      by_cases hbit : n / 2 ^ j % 2 = 1
      · rw [hbit, cT (by rfl), divide_Pow_5_eq, natMul _ _ (by omega) (by omega), Option.bind_some, cond_true, cond_false, val_nat, val_nat, ← Nat.pow_succ, show (2 * (n / 2 ^ (j + 1))).succ = n / 2 ^ j by omega]
        by_cases hg2 : (nat (A ^ (n / 2 ^ j))).length ≤ 1024
        · rw [decide_eq_true (by omega)]
          exact next _ rfl hg2
        · rw [decide_eq_false (by omega), powV_big hA hle (by omega)]
          exact over _
      · have hbit : n / 2 ^ j % 2 = 0 := by omega
        rw [hbit, cF (by rfl)]
        exact next _ (by omega) hg
    · rw [cT (by rw [decide_eq_false (by omega)]; rfl), over, powV_big hA (by omega) (show (nat (A ^ (2 * (n / 2 ^ (j + 1))))).length > 1024 by omega)]
theorem powV_huge (A n : Nat) (hA : 2 ≤ A) (hn : 8192 < n) : powV A n = ([], 9) := by
  rw [powV, if_pos]
  rcases Nat.lt_or_ge 1024 (nat (A ^ n)).length with h | h
  · exact h
  · exfalso
    have hv := val_lt (nat (A ^ n))
    rw [val_nat, pow_256] at hv
    have h1 : 2 ^ n ≤ A ^ n := Nat.pow_le_pow_left hA n
    have h2 : 2 ^ (8 * (nat (A ^ n)).length) ≤ 2 ^ n := Nat.pow_le_pow_right (by decide) (by omega)
    omega
theorem divPow (a : List UInt8) (ha : a.length ≤ 1024) (n : Int) (hn : n ≤ 9000) : divide_Pow a n = some (powR (val a) n) := by
  have la := nat_val_length a
  have o1 : nat_Of 1 = some [1] := natOf 1 (by decide)
  rw [divide_Pow_eq, natTrim, Option.bind_some, powR]
  rcases neg_or n with h | ⟨k, rfl⟩
  · rw [cT (decide_eq_true h), if_pos h]
  · rw [cF (decide_eq_false (by omega)), if_neg (by omega)]
    by_cases h0 : k = 0
    · subst h0
      rw [cT (by rfl), o1, if_pos (show ((0 : Nat) : Int) = 0 from rfl)]; rfl
    · rw [cF (decide_eq_false (by omega)), if_neg (by omega)]
      by_cases hA : val a = 0
      · rw [cT (decide_eq_true (nat_eq_nil.2 hA)), divide_Pow_1_eq, cond_true, if_pos (.inl hA)]
      · rw [cF (decide_eq_false (fun e => hA (nat_eq_nil.1 e))), o1, Option.bind_some, divide_Pow_1_eq]
        by_cases h1 : val a = 1
        · rw [cT (decide_eq_true (by rw [h1]; rfl)), if_pos (.inr h1)]
        · rw [cF (decide_eq_false (fun e => h1 (by rw [← nat_one] at e; exact nat_inj.1 e))), if_neg (by omega), Int.toNat_natCast]
          by_cases h2 : (k : Int) > 8192
          · rw [cT (decide_eq_true h2), powV_huge _ _ (by omega) (by omega)]
          · have hb := (blen_bounds k).1
            have hl : math_bits_Len (IntKind.u64.wrap (k : Int)) = some ((blen k : Nat) : Int) := by
              refine (top_call ..).trans ?_
              show len64F _ = _
              unfold len64F
              rw [wrapU64 (by omega) (by omega), cT (by simp; omega), Int.toNat_natCast, bitLen_blen k (by omega)]
            have hb32 := blen_le k (by omega)
            have hz : k / 2 ^ blen k = 0 := Nat.div_eq_of_lt hb
            have := divPow2 (val a) k (by omega) (by omega) (by omega) (blen k) (by omega) (by rw [hz, Nat.pow_zero, nat_one]; simp)
            rw [hz, Nat.pow_zero, nat_one] at this
            rw [cF (decide_eq_false h2), o1, Option.bind_some, hl, Option.bind_some, wrap64 (by omega) (by omega)]
            exact this
theorem refPow2 (A n : Nat) (hA : 0 < A) (hn : n ≤ 9000) (lA : (nat A).length ≤ 1024) : ∀ (m i : Nat), i + m = n → (nat (A ^ i)).length ≤ 1024 → abacistref02_Pow_2 (nat A) (n : Int) (nat (A ^ i)) (i : Int) = some (powV A n)
  | 0, i, hi, hl => by
    obtain rfl : i = n := by omega
    rw [abacistref02_Pow_2_eq, cF (decide_eq_false (by omega)), powV, if_neg (by omega)]
  | m + 1, i, hi, hl => by
    rw [abacistref02_Pow_2_eq, cT (decide_eq_true (by omega)), refMul _ _ (by omega) (by omega), Option.bind_some, val_nat, val_nat, ← Nat.pow_succ, wS (by omega)]
    by_cases hg : (nat (A ^ i.succ)).length > 1024
    · rw [cT (decide_eq_true (by omega)), powV_big hA (by omega) hg]
    · rw [cF (decide_eq_false (by omega))]
      exact refPow2 A n hA hn lA m (i + 1) (by omega) (Nat.le_of_not_lt hg)
theorem refPow (a : List UInt8) (ha : a.length ≤ 1024) (n : Int) (hn : n ≤ 9000) : abacistref02_Pow a n = some (powR (val a) n) := by
  have la := nat_val_length a
  rw [abacistref02_Pow_eq, powR]
  rcases neg_or n with h | ⟨k, rfl⟩
  · rw [cT (decide_eq_true h), if_pos h]
  · rw [cF (decide_eq_false (by omega)), if_neg (by omega), refTrim a (by omega), Option.bind_some]
    by_cases h0 : k = 0
    · subst h0
      have z : abacistref02_Pow_1 (nat (val a)) ((0 : Nat) : Int) true = some ([1], 0) := by rw [abacistref02_Pow_1_eq, cond_true, cT (by rfl)]
      rw [if_pos (show ((0 : Nat) : Int) = 0 from rfl), cF (c := decide (((0 : Nat) : Int) > 0)) (by rfl), cT (c := decide (((0 : Nat) : Int) = 0)) (by rfl), z]
      cases decide (nat (val a) = []) <;> rfl
    · rw [if_neg (by omega)]
      by_cases hA : val a = 0
      · rw [cT (decide_eq_true (nat_eq_nil.2 hA)), cT (decide_eq_true (by omega)), abacistref02_Pow_1_eq, cond_true, cF (decide_eq_false (by omega)), if_pos (.inl hA)]
      · rw [cF (decide_eq_false (fun e => hA (nat_eq_nil.1 e))), cF (decide_eq_false (by omega)), abacistref02_Pow_1_eq]
        by_cases h1 : val a = 1
        · rw [cT (decide_eq_true (by rw [h1]; rfl)), cF (decide_eq_false (by omega)), if_pos (.inr h1)]
        · have := refPow2 (val a) k (by omega) (by omega) (by omega) k 0 (Nat.zero_add _) (by rw [Nat.pow_zero, nat_one]; simp)
          rw [Nat.pow_zero, nat_one] at this
          rw [cF (decide_eq_false (fun e => h1 (by rw [← nat_one] at e; exact nat_inj.1 e))), if_neg (by omega), Int.toNat_natCast]
          exact this
end Go.Proofs.YtidlkgbaobfiaaaDoor.P
