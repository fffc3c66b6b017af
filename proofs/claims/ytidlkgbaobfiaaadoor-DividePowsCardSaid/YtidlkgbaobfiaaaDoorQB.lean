/- Shifts: the program's, the reference's. -/
import Derived.Test.YtidlkgbaobfiaaaDoorQA
set_option linter.unusedVariables false
set_option linter.unusedSimpArgs false
namespace Go.Proofs.YtidlkgbaobfiaaaDoor.P
open Go Go.Proofs.YtidlkgbaobfiaaaDoor.K
def zeros (n : Nat) : List UInt8 := List.replicate n 0
theorem val_zeros (n : Nat) : val (zeros n) = 0 := by
  induction n with
  | zero => rfl
  | succ n ih => unfold zeros at *; rw [List.replicate_succ, val_cons, ih]; simp
theorem val_pad (s : List UInt8) (n : Nat) : val (s ++ zeros n) = val s * 256 ^ n := by rw [val_append, val_zeros]; simp [zeros]
theorem nat_pad {n : Nat} (h : n ≠ 0) (k : Nat) : nat n ++ zeros k = nat (n * 256 ^ k) := by
  refine (nat_of (by rw [val_pad, val_nat]) fun b l e => ?_).symm
  cases hn : nat n with
  | nil => exact absurd (nat_eq_nil.1 hn) h
  | cons c m =>
    rw [hn] at e
    simp at e
    rw [← e.1]
    exact nat_head n c m hn
theorem repeat0 (n : Nat) (h : n ≤ 1000000) : strings_Repeat [0] (n : Int) = some (zeros n) := by
  refine (top_call ..).trans ?_
  show repeatF ([0], (n : Int)) = _
  unfold repeatF zeros
  rw [cT (by simp; omega)]
  congr 1
  rw [Int.toNat_natCast]
  induction n with
  | zero => rfl
  | succ n ih => simp [List.replicate_succ, Lib.repeatL, ih (by omega)]
theorem take_val (s : List UInt8) (k : Nat) : val (s.take (s.length - k)) = val s / 256 ^ k := by
  have hs : val s = val (s.take (s.length - k)) * 256 ^ (s.drop (s.length - k)).length + val (s.drop (s.length - k)) := by rw [← val_append, List.take_append_drop]
  have hv := val_lt (s.drop (s.length - k))
  by_cases h : k ≤ s.length
  · rw [show (s.drop (s.length - k)).length = k by simp; omega] at hs hv
    rw [hs, Nat.mul_comm, Nat.mul_add_div (Nat.pow_pos (by decide)), Nat.div_eq_of_lt hv, Nat.add_zero]
  · rw [show s.length - k = 0 by omega, List.take_zero, val_nil]
    have := val_lt s
    have h2 : 256 ^ s.length ≤ 256 ^ k := Nat.pow_le_pow_right (by decide) (by omega)
    rw [Nat.div_eq_of_lt (by omega)]
theorem tdiv8 (n : Nat) (h : n ≤ 9223372036854775807) : IntKind.i64.wrap ((n : Int).tdiv 8) = ((n / 8 : Nat) : Int) := by
  rw [Int.tdiv_eq_ediv_of_nonneg (by omega), wrap64 (by omega) (by omega)]; omega
theorem tmod8 (n : Nat) : (n : Int).tmod 8 = ((n % 8 : Nat) : Int) := by rw [Int.tmod_eq_emod_of_nonneg (by omega)]; omega
theorem div_pow_split (v n : Nat) : v / 256 ^ (n / 8) / 2 ^ (n % 8) = v / 2 ^ n := by
  rw [Nat.div_div_eq_div_mul, pow_256, ← Nat.pow_add, Nat.div_add_mod]
theorem shr_zero (v n len : Nat) (h : v < 256 ^ len) (hl : len ≤ n / 8) : v / 2 ^ n = 0 := by
  refine Nat.div_eq_of_lt (Nat.lt_of_lt_of_le h ?_)
  rw [pow_256]
  exact Nat.pow_le_pow_right (by decide) (by omega)
theorem neg_or (n : Int) : n < 0 ∨ ∃ k : Nat, n = (k : Int) := by
  rcases Int.lt_or_le n 0 with h | h
  · exact .inl h
  · exact .inr ⟨n.toNat, by omega⟩
def shrV (v : Nat) (n : Int) : Nat := if n < 0 then v else v / 2 ^ n.toNat
theorem divShr (a : List UInt8) (ha : a.length ≤ 100000000) (n : Int) (hn : n ≤ 9223372036854775807) : divide_Shr a n = some (nat (shrV (val a) n)) := by
  have la := nat_val_length a
  rw [divide_Shr_eq, natTrim, Option.bind_some, shrV]
  rcases neg_or n with h | ⟨k, rfl⟩
  · rw [cT (decide_eq_true h), if_pos h]
  · have e8 : (!decide ((8 : Int) = 0)) = true := rfl
    rw [cF (decide_eq_false (by omega)), if_neg (by omega), cT (by rfl), Int.toNat_natCast]
    rw [tdiv8 k (by omega)]
    by_cases hlen : (nat (val a)).length ≤ k / 8
    · have hv := val_lt (nat (val a))
      rw [val_nat] at hv
      rw [cT (decide_eq_true (by omega)), shr_zero _ _ _ hv hlen, nat_zero]
    · have ew : IntKind.i64.wrap (((nat (val a)).length : Int) - ((k / 8 : Nat) : Int)) = (((nat (val a)).length - k / 8 : Nat) : Int) := by rw [wrap64 (by omega) (by omega)]; omega
      have htv : val ((nat (val a)).take ((nat (val a)).length - k / 8)) = val a / 256 ^ (k / 8) := by rw [take_val, val_nat]
      have hll := limbs_val ((nat (val a)).take ((nat (val a)).length - k / 8))
      have htl : ((nat (val a)).take ((nat (val a)).length - k / 8)).length ≤ a.length := by simp; omega
      obtain ⟨r, e, r1, r2, r3⟩ := divBack (limbs (val ((nat (val a)).take ((nat (val a)).length - k / 8)))) (limbs_ok _) (by omega) (k % 8) (by omega)
      rw [cF (decide_eq_false (by omega)), cT (by rfl), ew, cT (inC (by omega)), Int.toNat_natCast, divRead _ (by omega), Option.bind_some, cT (by rfl), tmod8, e, Option.bind_some, divText r (by omega) r2, Option.bind_some, r3, W_limbs, htv, div_pow_split]
theorem byte_pow (k : Nat) (h : k < 8) : abacistref01_Byte (IntKind.i64.wrap (1 * 2 ^ min (IntKind.u64.wrap ((k : Nat) : Int)).toNat IntKind.i64.bits)) = some [UInt8.ofNat (2 ^ k % 256)] := by
  have hp : 2 ^ k ≤ 2 ^ 7 := Nat.pow_le_pow_right (by decide) (by omega)
  have e : (1 : Int) * 2 ^ min k 64 = ((2 ^ k : Nat) : Int) := by rw [Nat.min_eq_left (by omega), Int.one_mul]; simp
  rw [wrapU64 (by omega) (by omega), Int.toNat_natCast, show IntKind.i64.bits = 64 from rfl, e]
  clear e
  generalize 2 ^ k = p at *
  rw [wrap64 (by omega) (by omega), refByte]
theorem refShr (a : List UInt8) (ha : a.length ≤ 100000000) (n : Int) (hn : n ≤ 9223372036854775807) : abacistref02_Shr a n = some (nat (shrV (val a) n)) := by
  have la := nat_val_length a
  rw [abacistref02_Shr_eq, refTrim a (by omega), Option.bind_some, shrV]
  rcases neg_or n with h | ⟨k, rfl⟩
  · rw [cT (decide_eq_true h), if_pos h]
  · rw [cF (decide_eq_false (by omega)), if_neg (by omega), cT (by rfl), Int.toNat_natCast]
    rw [tdiv8 k (by omega)]
    by_cases hlen : (nat (val a)).length ≤ k / 8
    · have hv := val_lt (nat (val a))
      rw [val_nat] at hv
      rw [cT (decide_eq_true (by omega)), shr_zero _ _ _ hv hlen, nat_zero]
    · have ew : IntKind.i64.wrap (((nat (val a)).length : Int) - ((k / 8 : Nat) : Int)) = (((nat (val a)).length - k / 8 : Nat) : Int) := by rw [wrap64 (by omega) (by omega)]; omega
      have htv : val ((nat (val a)).take ((nat (val a)).length - k / 8)) = val a / 256 ^ (k / 8) := by rw [take_val, val_nat]
      have htl : ((nat (val a)).take ((nat (val a)).length - k / 8)).length ≤ a.length := by simp; omega
      have hp1 : 0 < 2 ^ (k % 8) := Nat.two_pow_pos _
      have hp : 2 ^ (k % 8) ≤ 2 ^ 7 := Nat.pow_le_pow_right (by decide) (by omega)
      have h0 : (0 : Int) ≤ IntKind.u64.wrap (((k % 8 : Nat) : Int)) := by rw [wrapU64 (by omega) (by omega)]; omega
      rw [cF (decide_eq_false (by omega)), cT (by rfl), ew, cT (inC (by omega)), Int.toNat_natCast, cT (by rfl), tmod8, cT (decide_eq_true h0), byte_pow _ (by omega), Option.bind_some, abacistref02_Div_eq, refDivMod _ _ (by omega) (by simp), Option.bind_some, Option.bind_some, val_one, Nat.mod_eq_of_lt (by omega), divmod, if_neg (by omega), htv]
      simp only
      rw [div_pow_split]
def shlV (v : Nat) (n : Int) : List UInt8 × Int := if n < 0 then ([], 2) else if v = 0 then ([], 0) else if n > 8192 then ([], 9) else if (nat (v * 2 ^ n.toNat)).length > 1024 then ([], 9) else (nat (v * 2 ^ n.toNat), 0)
theorem mul_pow_split (v n : Nat) : v * 2 ^ (n % 8) * 256 ^ (n / 8) = v * 2 ^ n := by
  rw [Nat.mul_assoc, pow_256, ← Nat.pow_add, Nat.add_comm, Nat.div_add_mod]
theorem divShl (a : List UInt8) (ha : a.length ≤ 1024) (n : Int) : divide_Shl a n = some (shlV (val a) n) := by
  have la := nat_val_length a
  rw [divide_Shl_eq, natTrim, Option.bind_some, shlV]
  rcases neg_or n with h | ⟨k, rfl⟩
  · rw [cT (decide_eq_true h), if_pos h]
  · rw [cF (decide_eq_false (by omega)), if_neg (by omega)]
    by_cases h0 : val a = 0
    · rw [cT (decide_eq_true (nat_eq_nil.2 h0)), if_pos h0]
    · rw [cF (decide_eq_false (fun e => h0 (nat_eq_nil.1 e))), if_neg h0, cF (decide_eq_false (by omega)), divide_Shl_1_eq]
      by_cases h1 : (k : Int) > 8192
      · rw [cT (decide_eq_true h1), if_pos h1]
      · have hlv := limbs_val (nat (val a))
        rw [val_nat] at hlv
        obtain ⟨r, e, r1, r2, r3⟩ := divShift (limbs (val a)) (limbs_ok _) (by omega) (k % 8) (by omega)
        rw [W_limbs] at r3
        have hnz : val a * 2 ^ (k % 8) ≠ 0 := Nat.ne_of_gt (Nat.mul_pos (by omega) (Nat.two_pow_pos _))
        have hrl : (nat (val a * 2 ^ (k % 8))).length ≤ 4 * r.length := by
          have hw := W_lt r2
          rw [r3, pow_32] at hw
          exact nat_length_le hw
        have hz : (zeros (k / 8)).length = k / 8 := by simp [zeros]
        rw [cF (decide_eq_false h1), if_neg h1, divRead _ (by omega), val_nat, Option.bind_some, cT (by rfl), tmod8, e, Option.bind_some, divText r (by omega) r2, Option.bind_some, cT (by rfl), tdiv8 _ (by omega), repeat0 _ (by omega), Option.bind_some, r3,
          cT (Nat.ble_eq_true_of_le (by omega)), nat_pad hnz, mul_pow_split, Int.toNat_natCast]
        by_cases hg : (nat (val a * 2 ^ k)).length > 1024
        · rw [cT (decide_eq_true (by omega)), if_pos hg]
        · rw [cF (decide_eq_false (by omega)), if_neg hg]
theorem refShl2 (n : Nat) (hn : n ≤ 9000) : ∀ (m i : Nat) (s : List UInt8), i + m = n / 8 → s.length + m ≤ 5000 → abacistref02_Shl_2 s (n : Int) (i : Int) =
    some (if (nat (val s * 256 ^ m * 2 ^ (n % 8))).length > 1024 then ([], 9) else (nat (val s * 256 ^ m * 2 ^ (n % 8)), 0))
  | 0, i, s, hi, hl => by
    have hp1 : 0 < 2 ^ (n % 8) := Nat.two_pow_pos _
    have hp : 2 ^ (n % 8) ≤ 2 ^ 7 := Nat.pow_le_pow_right (by decide) (by omega)
    have h0 : (0 : Int) ≤ IntKind.u64.wrap (((n % 8 : Nat) : Int)) := by rw [wrapU64 (by omega) (by omega)]; omega
    rw [abacistref02_Shl_2_eq, cT (by rfl), tdiv8 _ (by omega), cF (decide_eq_false (by omega)), cT (by rfl), tmod8, cT (decide_eq_true h0), byte_pow _ (by omega), Option.bind_some, refMul _ _ (by omega) (by simp), Option.bind_some, val_one, Nat.mod_eq_of_lt (by omega), Nat.pow_zero, Nat.mul_one]
    by_cases hg : (nat (val s * 2 ^ (n % 8))).length > 1024
    · rw [cT (decide_eq_true (by omega)), if_pos hg]
    · rw [cF (decide_eq_false (by omega)), if_neg hg]
  | m + 1, i, s, hi, hl => by
    have := refShl2 n hn m (i + 1) (s ++ [0]) (by omega) (by simp; omega)
    rw [val_snoc] at this
    rw [abacistref02_Shl_2_eq, cT (by rfl), tdiv8 _ (by omega), cT (decide_eq_true (by omega)), cT (Nat.ble_eq_true_of_le (by simp; omega)), wS (by omega), this,
      show (val s * 256 + (0 : UInt8).toNat) * 256 ^ m = val s * 256 ^ (m + 1) by rw [Nat.pow_succ']; simp [Nat.mul_assoc]]
theorem refShl (a : List UInt8) (ha : a.length ≤ 1024) (n : Int) : abacistref02_Shl a n = some (shlV (val a) n) := by
  have la := nat_val_length a
  rw [abacistref02_Shl_eq, shlV]
  rcases neg_or n with h | ⟨k, rfl⟩
  · rw [cT (decide_eq_true h), if_pos h]
  · rw [cF (decide_eq_false (by omega)), if_neg (by omega), refTrim a (by omega), Option.bind_some]
    by_cases h0 : val a = 0
    · rw [cT (decide_eq_true (nat_eq_nil.2 h0)), if_pos h0]
    · rw [cF (decide_eq_false (fun e => h0 (nat_eq_nil.1 e))), if_neg h0]
      by_cases h1 : (k : Int) > 9000
      · rw [cT (decide_eq_true h1), abacistref02_Shl_1_eq, cond_true, if_pos (by omega)]
      · have := refShl2 k (by omega) (k / 8) 0 (nat (val a)) (Nat.zero_add _) (by omega)
        have this : abacistref02_Shl_2 (nat (val a)) (k : Int) 0 = _ := this
        rw [cF (decide_eq_false h1), abacistref02_Shl_1_eq, cF (decide_eq_false (by omega)), this, val_nat, show val a * 256 ^ (k / 8) * 2 ^ (k % 8) = val a * 2 ^ k by rw [Nat.mul_right_comm, mul_pow_split], Int.toNat_natCast]
        by_cases h2 : (k : Int) > 8192
        · have hbig : (nat (val a * 2 ^ k)).length > 1024 := by
            rcases Nat.lt_or_ge 1024 (nat (val a * 2 ^ k)).length with h | h
            · exact h
            · exfalso
              have hv := val_lt (nat (val a * 2 ^ k))
              rw [val_nat, pow_256] at hv
              have h3 : 2 ^ (8 * (nat (val a * 2 ^ k)).length) ≤ 2 ^ k := Nat.pow_le_pow_right (by decide) (by omega)
              have h4 : 1 * 2 ^ k ≤ val a * 2 ^ k := Nat.mul_le_mul_right _ (by omega)
              omega
          rw [if_pos hbig, if_pos h2]
        · rw [if_neg h2]
end Go.Proofs.YtidlkgbaobfiaaaDoor.P
