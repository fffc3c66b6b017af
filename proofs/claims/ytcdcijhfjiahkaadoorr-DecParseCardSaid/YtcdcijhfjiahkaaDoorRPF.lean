/- Division by more than one limb, and DivMod. -/
import Derived.Test.YtcdcijhfjiahkaaDoorRPE
set_option linter.unusedVariables false
set_option linter.unusedSimpArgs false
namespace Go.Proofs.YtcdcijhfjiahkaaDoorR.P
open Go Go.Proofs.YtcdcijhfjiahkaaDoorR.K Go.Proofs.YtcdcijhfjiahkaaDoorR.C
theorem W_take_lt {B : Nat} (hB : 0 < B) {l : List Int} (ho : Ok B l) (j : Nat) (h : W B l < B ^ j) : W B (l.take j) = W B l := by
  by_cases hj : j ≤ l.length
  · have h1 := W_split B l j hj
    rcases Nat.eq_zero_or_pos (W B (l.drop j)) with h0 | h0
    · rw [h0] at h1; omega
    · have : B ^ j * 1 ≤ B ^ j * W B (l.drop j) := Nat.mul_le_mul_left _ h0
      omega
  · rw [List.take_of_length_le (by omega)]
theorem W_above {B : Nat} (hB : 0 < B) {l : List Int} (ho : Ok B l) (j p : Nat) (h : W B l < B ^ j) (hp : j ≤ p) : l.getD p 0 = 0 := by
  have h1 := W_digit hB ho p
  have h2 : B ^ j ≤ B ^ p := Nat.pow_le_pow_right hB hp
  rw [Nat.div_eq_of_lt (by omega), Nat.zero_mod] at h1
  have := ho.getD hB p
  omega
theorem W_lt_above {B : Nat} (hB : 0 < B) {l : List Int} (ho : Ok B l) (j : Nat) (h : ∀ p, j ≤ p → l.getD p 0 = 0) : W B l < B ^ j := by
  have key : ∀ k, W B (l.take (j + k)) = W B (l.take j) := by
    intro k
    induction k with
    | zero => rfl
    | succ k ih => rw [← Nat.add_assoc, W_take, ih, h (j + k) (by omega)]; simp
  have h1 := key l.length
  rw [W_all B l _ (by omega)] at h1
  have h2 := W_lt (ho.take j)
  have h3 : B ^ (l.take j).length ≤ B ^ j := Nat.pow_le_pow_right hB (by simp; omega)
  omega
theorem take_step (P At Bi w w' w0 q m mi c b r v pm c' b' B : Nat) (hP : P = At * Bi) (h : w + At * (q * m) = w0 + P * (c + b)) (hset : w' + P * r = w + P * v) (hp : q * mi + c = B * c' + pm) (hn : v + pm + b = r + B * b') :
    w' + At * (q * (m + Bi * mi)) = w0 + P * B * (c' + b') := by
  subst hP
  have e1 : At * Bi * (q * mi + c) = At * Bi * (B * c' + pm) := by rw [hp]
  have e2 : At * Bi * (v + pm + b) = At * Bi * (r + B * b') := by rw [hn]
  have : w' + At * (q * (m + Bi * mi)) + At * Bi * r + At * Bi * c + At * Bi * b + At * Bi * pm = w0 + At * Bi * B * (c' + b') + At * Bi * r + At * Bi * c + At * Bi * b + At * Bi * pm := by grind
  omega
theorem take_last (P w w' w0 x c b r v neg B : Nat) (h : w + x = w0 + P * (c + b)) (hset : w' + P * r = w + P * v) (hn : v + c + b = r + B * neg) : w' + x = w0 + P * B * neg := by
  have e2 : P * (v + c + b) = P * (r + B * neg) := by rw [hn]
  have : w' + x + P * r + P * c + P * b = w0 + P * B * neg + P * r + P * c + P * b := by grind
  omega
theorem p63 : (2 : Int) ^ min 63 IntKind.u64.bits = 9223372036854775808 := rfl
/-- So many times a number is taken off. -/
theorem divTake (m : List Int) (hm : Ok 4294967296 m) (q : Nat) (hq : q < 4294967296) (at_ : Nat) (rest0 out m2 : List Int) (by_ n2 at2 q2 : Int) (hlen : at_ + m.length < rest0.length) (hl : rest0.length ≤ 2000000000) :
    ∀ (k i c b : Nat) (rest : List Int), i + k = m.length → rest.length = rest0.length → Ok 4294967296 rest → c < 4294967296 → b ≤ 1 → (∀ p, at_ + i ≤ p → rest.getD p 0 = rest0.getD p 0) →
      W 4294967296 rest + 4294967296 ^ at_ * (q * W 4294967296 (m.take i)) = W 4294967296 rest0 + 4294967296 ^ (at_ + i) * (c + b) →
      ∃ (rest' : List Int) (neg : Nat), rest'.length = rest0.length ∧ Ok 4294967296 rest' ∧ (∀ p, at_ + m.length < p → rest'.getD p 0 = rest0.getD p 0) ∧ neg ≤ 1 ∧
        W 4294967296 rest' + 4294967296 ^ at_ * (q * W 4294967296 m) = W 4294967296 rest0 + 4294967296 ^ (at_ + m.length + 1) * neg ∧
        divide_limbs_long_3 m (q : Int) (at_ : Int) (c : Int) (b : Int) (m.length : Int) (i : Int) rest out m2 by_ n2 at2 q2 =
          cond (decide (neg = 1)) (divide_limbs_long_4 m2 at2 rest' out m2 by_ n2 at2 (IntKind.u64.wrap (q2 - 1)))
            (cond (decide (0 ≤ at2) && decide (at2 < (out.length : Int))) (divide_limbs_long_1 m2 by_ n2 (IntKind.i64.wrap (at2 - 1)) rest' (out.set at2.toNat (IntKind.u32.wrap q2))) none)
  | 0, i, c, b, rest, hi, hr, ho, hc, hb, hsame, hw => by
    obtain rfl : i = m.length := by omega
    have hx := ho.getD (by decide) (at_ + m.length)
    have n0 : rest.getD (at_ + m.length) 0 = ((rest.getD (at_ + m.length) 0).toNat : Int) := by omega
    generalize hy : (rest.getD (at_ + m.length) 0).toNat = r at n0
    have en : IntKind.u64.wrap (IntKind.u64.wrap (IntKind.u64.wrap (r : Int) - (c : Int)) - (b : Int)) = ((r : Int) - c - b) % 18446744073709551616 := by
      rw [wrapU64 (n := (r : Int)) (by omega) (by omega), mod_u64, mod_u64]; omega
    have hset := fun v : Nat => W_set' 4294967296 rest (at_ + m.length) v (by omega)
    simp only [hy] at hset
    rw [List.take_length] at hw
    by_cases hneg : r < c + b
    · refine ⟨rest.set (at_ + m.length) ((r + 4294967296 - c - b : Nat) : Int), 1, by simp [hr], ho.set _ (by omega) (by omega), fun p hp => by rw [getD_set_ne _ _ _ _ (by omega)]; exact hsame p (by omega), by omega, ?_, ?_⟩
      · rw [Nat.pow_succ]
        exact take_last (4294967296 ^ (at_ + m.length)) _ _ _ _ c b r (r + 4294967296 - c - b) 1 4294967296 hw (hset _) (by omega)
      · rw [divide_limbs_long_3_eq, cF (decide_eq_false (by omega)), wA (by omega), cT (ix (by omega)), cT (ix (by omega)), cT (decide_eq_true (by decide)), Int.toNat_natCast, n0, en, p63, fd (by omega), mod_u32]
        have e1 : ((r : Int) - c - b) % 18446744073709551616 / 9223372036854775808 = 1 := by omega
        have e2 : ((r : Int) - c - b) % 18446744073709551616 % 4294967296 = ((r + 4294967296 - c - b : Nat) : Int) := by omega
        rw [e1, e2, cT (by rfl), cT (by rfl)]
    · refine ⟨rest.set (at_ + m.length) ((r - c - b : Nat) : Int), 0, by simp [hr], ho.set _ (by omega) (by omega), fun p hp => by rw [getD_set_ne _ _ _ _ (by omega)]; exact hsame p (by omega), by omega, ?_, ?_⟩
      · rw [Nat.pow_succ]
        exact take_last (4294967296 ^ (at_ + m.length)) _ _ _ _ c b r (r - c - b) 0 4294967296 hw (hset _) (by omega)
      · rw [divide_limbs_long_3_eq, cF (decide_eq_false (by omega)), wA (by omega), cT (ix (by omega)), cT (ix (by omega)), cT (decide_eq_true (by decide)), Int.toNat_natCast, n0, en, p63, fd (by omega), mod_u32]
        have e1 : ((r : Int) - c - b) % 18446744073709551616 / 9223372036854775808 = 0 := by omega
        have e2 : ((r : Int) - c - b) % 18446744073709551616 % 4294967296 = ((r - c - b : Nat) : Int) := by omega
        rw [e1, e2, cF (c := !(decide ((0 : Int) = 0))) (by rfl), cF (c := decide (0 = 1)) (by rfl)]
  | k + 1, i, c, b, rest, hi, hr, ho, hc, hb, hsame, hw => by
    have hx := ho.getD (by decide) (at_ + i)
    have hmx := hm.getD (by decide) i
    have n0 : rest.getD (at_ + i) 0 = ((rest.getD (at_ + i) 0).toNat : Int) := by omega
    have n1 : m.getD i 0 = ((m.getD i 0).toNat : Int) := by omega
    generalize hy : (rest.getD (at_ + i) 0).toNat = r at n0
    generalize hd : (m.getD i 0).toNat = d at n1
    have hqd := le_mul_pred (a := q) (b := d) (B := 4294967296) hq (by omega)
    have ep : IntKind.u64.wrap (IntKind.u64.wrap ((q : Int) * IntKind.u64.wrap (m.getD i 0)) + (c : Int)) = ((q * d + c : Nat) : Int) := by
      rw [n1, wrapU64 (n := (d : Int)) (by omega) (by omega), ← Int.natCast_mul, wrapU64 (n := ((q * d : Nat) : Int)) (by omega) (by omega), wrapU64 (by omega) (by omega)]; omega
    generalize hp : q * d + c = pr at ep
    have hpr : pr < 18446744073709551616 := by omega
    have en : IntKind.u64.wrap (IntKind.u64.wrap (IntKind.u64.wrap (r : Int) - ((pr : Int) % 4294967296)) - (b : Int)) = ((r : Int) - pr % 4294967296 - b) % 18446744073709551616 := by
      rw [wrapU64 (n := (r : Int)) (by omega) (by omega), mod_u64, mod_u64]; omega
    have hset := fun v : Nat => W_set' 4294967296 rest (at_ + i) v (by omega)
    simp only [hy] at hset
    obtain ⟨v, b', hv, hb', hn, e1, e2⟩ : ∃ v b' : Nat, v < 4294967296 ∧ b' ≤ 1 ∧ v + pr % 4294967296 + b = r + 4294967296 * b' ∧ ((r : Int) - pr % 4294967296 - b) % 18446744073709551616 / 9223372036854775808 = (b' : Int) ∧ ((r : Int) - pr % 4294967296 - b) % 18446744073709551616 % 4294967296 = (v : Int) := by
      by_cases hneg : r < pr % 4294967296 + b
      · exact ⟨r + 4294967296 - pr % 4294967296 - b, 1, by omega, by omega, by omega, by omega, by omega⟩
      · exact ⟨r - pr % 4294967296 - b, 0, by omega, by omega, by omega, by omega, by omega⟩
    obtain ⟨rest', neg, g1, g2, g3, g4, g5, g6⟩ := divTake m hm q hq at_ rest0 out m2 by_ n2 at2 q2 hlen hl k (i + 1) (pr / 4294967296) b' (rest.set (at_ + i) (v : Int)) (by omega) (by simp [hr]) (ho.set _ (by omega) (by omega)) (by omega) hb'
      (fun p hp => by rw [getD_set_ne _ _ _ _ (by omega)]; exact hsame p (by omega)) (by
        rw [W_take, hd, ← Nat.add_assoc, Nat.pow_succ]
        exact take_step _ (4294967296 ^ at_) (4294967296 ^ i) _ _ _ q _ d c b r v (pr % 4294967296) _ b' 4294967296 (Nat.pow_add ..) hw (hset v) (by omega) hn)
    refine ⟨rest', neg, g1, g2, g3, g4, g5, ?_⟩
    rw [divide_limbs_long_3_eq, cT (decide_eq_true (by omega)), cT (ix (by omega)), cT (decide_eq_true (by decide)), wA (by omega), cT (ix (by omega)), cT (ix (by omega)), cT (decide_eq_true (by decide)), Int.toNat_natCast, Int.toNat_natCast, ep, and_u64w _ (by omega) (by omega), n0, en, p63, p32, fd (by omega), fd (by omega), mod_u32, e1, e2, wS (by omega),
      show (pr : Int) / 4294967296 = ((pr / 4294967296 : Nat) : Int) by omega]
    exact g6
theorem give_step (P At Bi w w' w0 m mi c r v c' B : Nat) (hP : P = At * Bi) (h : w + P * c = w0 + At * m) (hset : w' + P * r = w + P * v) (hn : r + mi + c = B * c' + v) :
    w' + P * B * c' = w0 + At * (m + Bi * mi) := by
  subst hP
  have e1 : At * Bi * (r + mi + c) = At * Bi * (B * c' + v) := by rw [hn]
  have : w' + At * Bi * B * c' + At * Bi * r + At * Bi * c + At * Bi * v = w0 + At * (m + Bi * mi) + At * Bi * r + At * Bi * c + At * Bi * v := by grind
  omega
theorem give_last (P w w' w0 x c r v o B : Nat) (h : w + P * c = w0 + x) (hset : w' + P * r = w + P * v) (hn : r + c = B * o + v) : w' + P * B * o = w0 + x := by
  have e1 : P * (r + c) = P * (B * o + v) := by rw [hn]
  have : w' + P * B * o + P * r + P * c + P * v = w0 + x + P * r + P * c + P * v := by grind
  omega
/-- A number is given back. -/
theorem divGive (m : List Int) (hm : Ok 4294967296 m) (at_ : Nat) (rest0 out m2 : List Int) (by_ n2 at2 q2 : Int) (hlen : at_ + m.length < rest0.length) (hl : rest0.length ≤ 2000000000) :
    ∀ (k i c : Nat) (rest : List Int), i + k = m.length → rest.length = rest0.length → Ok 4294967296 rest → c ≤ 1 → (∀ p, at_ + i ≤ p → rest.getD p 0 = rest0.getD p 0) →
      W 4294967296 rest + 4294967296 ^ (at_ + i) * c = W 4294967296 rest0 + 4294967296 ^ at_ * W 4294967296 (m.take i) →
      ∃ (rest' : List Int) (o : Nat), rest'.length = rest0.length ∧ Ok 4294967296 rest' ∧ (∀ p, at_ + m.length < p → rest'.getD p 0 = rest0.getD p 0) ∧ o ≤ 1 ∧
        W 4294967296 rest' + 4294967296 ^ (at_ + m.length + 1) * o = W 4294967296 rest0 + 4294967296 ^ at_ * W 4294967296 m ∧
        divide_limbs_long_5 m (at_ : Int) (c : Int) (m.length : Int) (i : Int) rest out m2 by_ n2 at2 q2 =
            (cond (decide (0 ≤ at2) && decide (at2 < (out.length : Int))) (divide_limbs_long_1 m2 by_ n2 (IntKind.i64.wrap (at2 - 1)) rest' (out.set at2.toNat (IntKind.u32.wrap q2))) none)
  | 0, i, c, rest, hi, hr, ho, hc, hsame, hw => by
    obtain rfl : i = m.length := by omega
    have hx := ho.getD (by decide) (at_ + m.length)
    have n0 : rest.getD (at_ + m.length) 0 = ((rest.getD (at_ + m.length) 0).toNat : Int) := by omega
    generalize hy : (rest.getD (at_ + m.length) 0).toNat = r at n0
    have en : IntKind.u32.wrap ((r : Int) + IntKind.u32.wrap (c : Int)) = (((r + c) % 4294967296 : Nat) : Int) := by
      rw [wrapU32 (n := (c : Int)) (by omega) (by omega), mod_u32]; omega
    have hset := fun v : Nat => W_set' 4294967296 rest (at_ + m.length) v (by omega)
    simp only [hy] at hset
    rw [List.take_length] at hw
    refine ⟨rest.set (at_ + m.length) (((r + c) % 4294967296 : Nat) : Int), (r + c) / 4294967296, by simp [hr], ho.set _ (by omega) (by omega), fun p hp => by rw [getD_set_ne _ _ _ _ (by omega)]; exact hsame p (by omega), by omega, ?_, ?_⟩
    · rw [Nat.pow_succ]
      exact give_last (4294967296 ^ (at_ + m.length)) _ _ _ _ c r ((r + c) % 4294967296) _ 4294967296 hw (hset _) (by omega)
    · rw [divide_limbs_long_5_eq, cF (decide_eq_false (by omega)), wA (by omega), cT (ix (by omega)), cT (ix (by omega)), Int.toNat_natCast, n0, en]
  | k + 1, i, c, rest, hi, hr, ho, hc, hsame, hw => by
    have hx := ho.getD (by decide) (at_ + i)
    have hmx := hm.getD (by decide) i
    have n0 : rest.getD (at_ + i) 0 = ((rest.getD (at_ + i) 0).toNat : Int) := by omega
    have n1 : m.getD i 0 = ((m.getD i 0).toNat : Int) := by omega
    generalize hy : (rest.getD (at_ + i) 0).toNat = r at n0
    generalize hd : (m.getD i 0).toNat = d at n1
    have en : IntKind.u64.wrap (IntKind.u64.wrap (IntKind.u64.wrap (r : Int) + IntKind.u64.wrap (d : Int)) + (c : Int)) = ((r + d + c : Nat) : Int) := by
      rw [wrapU64 (n := (r : Int)) (by omega) (by omega), wrapU64 (n := (d : Int)) (by omega) (by omega), wrapU64 (n := (r : Int) + (d : Int)) (by omega) (by omega), wrapU64 (by omega) (by omega)]; omega
    have hset := W_set' 4294967296 rest (at_ + i) ((r + d + c) % 4294967296) (by omega)
    rw [hy] at hset
    obtain ⟨rest', o, g1, g2, g3, g4, g5, g6⟩ := divGive m hm at_ rest0 out m2 by_ n2 at2 q2 hlen hl k (i + 1) ((r + d + c) / 4294967296) (rest.set (at_ + i) (((r + d + c) % 4294967296 : Nat) : Int)) (by omega) (by simp [hr]) (ho.set _ (by omega) (by omega)) (by omega)
        (fun p hp => by rw [getD_set_ne _ _ _ _ (by omega)]; exact hsame p (by omega)) (by
          rw [W_take, hd, ← Nat.add_assoc, Nat.pow_succ]
          exact give_step _ (4294967296 ^ at_) (4294967296 ^ i) _ _ _ _ d c r ((r + d + c) % 4294967296) _ 4294967296 (Nat.pow_add ..) hw hset (by omega))
    refine ⟨rest', o, g1, g2, g3, g4, g5, ?_⟩
    rw [divide_limbs_long_5_eq, cT (decide_eq_true (by omega)), wA (by omega), cT (ix (by omega)), cT (ix (by omega)), cT (ix (by omega)), cT (decide_eq_true (by decide)), Int.toNat_natCast, Int.toNat_natCast, n0, n1, en, p32, fd (by omega), mod_u32, wS (by omega),
      show ((r + d + c : Nat) : Int) / 4294967296 = (((r + d + c) / 4294967296 : Nat) : Int) by omega, show ((r + d + c : Nat) : Int) % 4294967296 = (((r + d + c) % 4294967296 : Nat) : Int) by omega]
    exact g6
end Go.Proofs.YtcdcijhfjiahkaaDoorR.P
