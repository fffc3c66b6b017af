/- Part 6 of the proof: the machine, the tables and the pure laws that the last text joins. -/
import Derived.Test.YtodfaihlddiokaaGreatDoorZ5
import Derived.Test.YtodfaihlddiokaaGreatDoorZ4
import Derived.Test.YtodfaihlddiokaaGreatDoorProg
/- Division by more than one limb, and DivMod. -/
set_option linter.unusedVariables false
set_option linter.unusedSimpArgs false
namespace Go.Proofs.YtodfaihlddiokaaGreatDoor.P
open Go Go.Proofs.YtodfaihlddiokaaGreatDoor.K Go.Proofs.YtodfaihlddiokaaGreatDoor.C
theorem W_take_lt {B : Nat} (hB : 0 < B) {l : List Int} (ho : Ok B l) (j : Nat) (h : W B l < B ^ j) : W B (l.take j) = W B l := by
  by_cases hj : j ≤ l.length
  · have h1 := W_split B l j hj
    rcases Nat.eq_zero_or_pos (W B (l.drop j)) with h0 | h0
    · rw [h0] at h1; omega
    · have : B ^ j * 1 ≤ B ^ j * W B (l.drop j) := Nat.mul_le_mul_left _ h0
      omega
  · rw [List.take_of_length_le (by omega)]
theorem W_above {B : Nat} (hB : 0 < B) {l : List Int} (ho : Ok B l) (j p : Nat) (h : W B l < B ^ j) (hp : j ≤ p) : l.getD p 0 = 0 := by
  have h1 := W_digit hB ho p
  have h2 : B ^ j ≤ B ^ p := Nat.pow_le_pow_right hB hp
  rw [Nat.div_eq_of_lt (by omega), Nat.zero_mod] at h1
  have := ho.getD hB p
  omega
theorem W_lt_above {B : Nat} (hB : 0 < B) {l : List Int} (ho : Ok B l) (j : Nat) (h : ∀ p, j ≤ p → l.getD p 0 = 0) : W B l < B ^ j := by
  have key : ∀ k, W B (l.take (j + k)) = W B (l.take j) := by
    intro k
    induction k with
    | zero => rfl
    | succ k ih => rw [← Nat.add_assoc, W_take, ih, h (j + k) (by omega)]; simp
  have h1 := key l.length
  rw [W_all B l _ (by omega)] at h1
  have h2 := W_lt (ho.take j)
  have h3 : B ^ (l.take j).length ≤ B ^ j := Nat.pow_le_pow_right hB (by simp; omega)
  omega
theorem take_step (P At Bi w w' w0 q m mi c b r v pm c' b' B : Nat) (hP : P = At * Bi) (h : w + At * (q * m) = w0 + P * (c + b)) (hset : w' + P * r = w + P * v) (hp : q * mi + c = B * c' + pm) (hn : v + pm + b = r + B * b') :
    w' + At * (q * (m + Bi * mi)) = w0 + P * B * (c' + b') := by
  subst hP
  have e1 : At * Bi * (q * mi + c) = At * Bi * (B * c' + pm) := by rw [hp]
  have e2 : At * Bi * (v + pm + b) = At * Bi * (r + B * b') := by rw [hn]
  have : w' + At * (q * (m + Bi * mi)) + At * Bi * r + At * Bi * c + At * Bi * b + At * Bi * pm = w0 + At * Bi * B * (c' + b') + At * Bi * r + At * Bi * c + At * Bi * b + At * Bi * pm := by grind
  omega
theorem take_last (P w w' w0 x c b r v neg B : Nat) (h : w + x = w0 + P * (c + b)) (hset : w' + P * r = w + P * v) (hn : v + c + b = r + B * neg) : w' + x = w0 + P * B * neg := by
  have e2 : P * (v + c + b) = P * (r + B * neg) := by rw [hn]
  have : w' + x + P * r + P * c + P * b = w0 + P * B * neg + P * r + P * c + P * b := by grind
  omega
theorem p63 : (2 : Int) ^ min 63 IntKind.u64.bits = 9223372036854775808 := rfl
/-- So many times a number is taken off. -/
theorem divTake (m : List Int) (hm : Ok 4294967296 m) (q : Nat) (hq : q < 4294967296) (at_ : Nat) (rest0 out m2 : List Int) (by_ n2 at2 q2 : Int) (hlen : at_ + m.length < rest0.length) (hl : rest0.length ≤ 2000000000) :
    ∀ (k i c b : Nat) (rest : List Int), i + k = m.length → rest.length = rest0.length → Ok 4294967296 rest → c < 4294967296 → b ≤ 1 → (∀ p, at_ + i ≤ p → rest.getD p 0 = rest0.getD p 0) →
      W 4294967296 rest + 4294967296 ^ at_ * (q * W 4294967296 (m.take i)) = W 4294967296 rest0 + 4294967296 ^ (at_ + i) * (c + b) →
      ∃ (rest' : List Int) (neg : Nat), rest'.length = rest0.length ∧ Ok 4294967296 rest' ∧ (∀ p, at_ + m.length < p → rest'.getD p 0 = rest0.getD p 0) ∧ neg ≤ 1 ∧
        W 4294967296 rest' + 4294967296 ^ at_ * (q * W 4294967296 m) = W 4294967296 rest0 + 4294967296 ^ (at_ + m.length + 1) * neg ∧
        divide_limbs_long_3 m (q : Int) (at_ : Int) (c : Int) (b : Int) (m.length : Int) (i : Int) rest out m2 by_ n2 at2 q2 =
          cond (decide (neg = 1)) (divide_limbs_long_4 m2 at2 rest' out m2 by_ n2 at2 (IntKind.u64.wrap (q2 - 1)))
            (cond (decide (0 ≤ at2) && decide (at2 < (out.length : Int))) (divide_limbs_long_1 m2 by_ n2 (IntKind.i64.wrap (at2 - 1)) rest' (out.set at2.toNat (IntKind.u32.wrap q2))) none)
  | 0, i, c, b, rest, hi, hr, ho, hc, hb, hsame, hw => by
    obtain rfl : i = m.length := by omega
    have hx := ho.getD (by decide) (at_ + m.length)
    have n0 : rest.getD (at_ + m.length) 0 = ((rest.getD (at_ + m.length) 0).toNat : Int) := by omega
    generalize hy : (rest.getD (at_ + m.length) 0).toNat = r at n0
    have en : IntKind.u64.wrap (IntKind.u64.wrap (IntKind.u64.wrap (r : Int) - (c : Int)) - (b : Int)) = ((r : Int) - c - b) % 18446744073709551616 := by
      rw [wrapU64 (n := (r : Int)) (by omega) (by omega), mod_u64, mod_u64]; omega
    have hset := fun v : Nat => W_set' 4294967296 rest (at_ + m.length) v (by omega)
    simp only [hy] at hset
    rw [List.take_length] at hw
    by_cases hneg : r < c + b
    · refine ⟨rest.set (at_ + m.length) ((r + 4294967296 - c - b : Nat) : Int), 1, by simp [hr], ho.set _ (by omega) (by omega), fun p hp => by rw [getD_set_ne _ _ _ _ (by omega)]; exact hsame p (by omega), by omega, ?_, ?_⟩
      · rw [Nat.pow_succ]
        exact take_last (4294967296 ^ (at_ + m.length)) _ _ _ _ c b r (r + 4294967296 - c - b) 1 4294967296 hw (hset _) (by omega)
      · rw [divide_limbs_long_3_eq, cF (decide_eq_false (by omega)), wA (by omega), cT (ix (by omega)), cT (ix (by omega)), cT (decide_eq_true (by decide)), Int.toNat_natCast, n0, en, p63, fd (by omega), mod_u32]
        have e1 : ((r : Int) - c - b) % 18446744073709551616 / 9223372036854775808 = 1 := by omega
        have e2 : ((r : Int) - c - b) % 18446744073709551616 % 4294967296 = ((r + 4294967296 - c - b : Nat) : Int) := by omega
        rw [e1, e2, cT (by rfl), cT (by rfl)]
    · refine ⟨rest.set (at_ + m.length) ((r - c - b : Nat) : Int), 0, by simp [hr], ho.set _ (by omega) (by omega), fun p hp => by rw [getD_set_ne _ _ _ _ (by omega)]; exact hsame p (by omega), by omega, ?_, ?_⟩
      · rw [Nat.pow_succ]
        exact take_last (4294967296 ^ (at_ + m.length)) _ _ _ _ c b r (r - c - b) 0 4294967296 hw (hset _) (by omega)
      · rw [divide_limbs_long_3_eq, cF (decide_eq_false (by omega)), wA (by omega), cT (ix (by omega)), cT (ix (by omega)), cT (decide_eq_true (by decide)), Int.toNat_natCast, n0, en, p63, fd (by omega), mod_u32]
        have e1 : ((r : Int) - c - b) % 18446744073709551616 / 9223372036854775808 = 0 := by omega
        have e2 : ((r : Int) - c - b) % 18446744073709551616 % 4294967296 = ((r - c - b : Nat) : Int) := by omega
        rw [e1, e2, cF (c := !(decide ((0 : Int) = 0))) (by rfl), cF (c := decide (0 = 1)) (by rfl)]
  | k + 1, i, c, b, rest, hi, hr, ho, hc, hb, hsame, hw => by
    have hx := ho.getD (by decide) (at_ + i)
    have hmx := hm.getD (by decide) i
    have n0 : rest.getD (at_ + i) 0 = ((rest.getD (at_ + i) 0).toNat : Int) := by omega
    have n1 : m.getD i 0 = ((m.getD i 0).toNat : Int) := by omega
    generalize hy : (rest.getD (at_ + i) 0).toNat = r at n0
    generalize hd : (m.getD i 0).toNat = d at n1
    have hqd := le_mul_pred (a := q) (b := d) (B := 4294967296) hq (by omega)
    have ep : IntKind.u64.wrap (IntKind.u64.wrap ((q : Int) * IntKind.u64.wrap (m.getD i 0)) + (c : Int)) = ((q * d + c : Nat) : Int) := by
      rw [n1, wrapU64 (n := (d : Int)) (by omega) (by omega), ← Int.natCast_mul, wrapU64 (n := ((q * d : Nat) : Int)) (by omega) (by omega), wrapU64 (by omega) (by omega)]; omega
    generalize hp : q * d + c = pr at ep
    have hpr : pr < 18446744073709551616 := by omega
    have en : IntKind.u64.wrap (IntKind.u64.wrap (IntKind.u64.wrap (r : Int) - ((pr : Int) % 4294967296)) - (b : Int)) = ((r : Int) - pr % 4294967296 - b) % 18446744073709551616 := by
      rw [wrapU64 (n := (r : Int)) (by omega) (by omega), mod_u64, mod_u64]; omega
    have hset := fun v : Nat => W_set' 4294967296 rest (at_ + i) v (by omega)
    simp only [hy] at hset
    obtain ⟨v, b', hv, hb', hn, e1, e2⟩ : ∃ v b' : Nat, v < 4294967296 ∧ b' ≤ 1 ∧ v + pr % 4294967296 + b = r + 4294967296 * b' ∧ ((r : Int) - pr % 4294967296 - b) % 18446744073709551616 / 9223372036854775808 = (b' : Int) ∧ ((r : Int) - pr % 4294967296 - b) % 18446744073709551616 % 4294967296 = (v : Int) := by
      by_cases hneg : r < pr % 4294967296 + b
      · exact ⟨r + 4294967296 - pr % 4294967296 - b, 1, by omega, by omega, by omega, by omega, by omega⟩
      · exact ⟨r - pr % 4294967296 - b, 0, by omega, by omega, by omega, by omega, by omega⟩
    obtain ⟨rest', neg, g1, g2, g3, g4, g5, g6⟩ := divTake m hm q hq at_ rest0 out m2 by_ n2 at2 q2 hlen hl k (i + 1) (pr / 4294967296) b' (rest.set (at_ + i) (v : Int)) (by omega) (by simp [hr]) (ho.set _ (by omega) (by omega)) (by omega) hb'
      (fun p hp => by rw [getD_set_ne _ _ _ _ (by omega)]; exact hsame p (by omega)) (by
        rw [W_take, hd, ← Nat.add_assoc, Nat.pow_succ]
        exact take_step _ (4294967296 ^ at_) (4294967296 ^ i) _ _ _ q _ d c b r v (pr % 4294967296) _ b' 4294967296 (Nat.pow_add ..) hw (hset v) (by omega) hn)
    refine ⟨rest', neg, g1, g2, g3, g4, g5, ?_⟩
    rw [divide_limbs_long_3_eq, cT (decide_eq_true (by omega)), cT (ix (by omega)), cT (decide_eq_true (by decide)), wA (by omega), cT (ix (by omega)), cT (ix (by omega)), cT (decide_eq_true (by decide)), Int.toNat_natCast, Int.toNat_natCast, ep, and_u64w _ (by omega) (by omega), n0, en, p63, p32, fd (by omega), fd (by omega), mod_u32, e1, e2, wS (by omega),
      show (pr : Int) / 4294967296 = ((pr / 4294967296 : Nat) : Int) by omega]
    exact g6
theorem give_step (P At Bi w w' w0 m mi c r v c' B : Nat) (hP : P = At * Bi) (h : w + P * c = w0 + At * m) (hset : w' + P * r = w + P * v) (hn : r + mi + c = B * c' + v) :
    w' + P * B * c' = w0 + At * (m + Bi * mi) := by
  subst hP
  have e1 : At * Bi * (r + mi + c) = At * Bi * (B * c' + v) := by rw [hn]
  have : w' + At * Bi * B * c' + At * Bi * r + At * Bi * c + At * Bi * v = w0 + At * (m + Bi * mi) + At * Bi * r + At * Bi * c + At * Bi * v := by grind
  omega
theorem give_last (P w w' w0 x c r v o B : Nat) (h : w + P * c = w0 + x) (hset : w' + P * r = w + P * v) (hn : r + c = B * o + v) : w' + P * B * o = w0 + x := by
  have e1 : P * (r + c) = P * (B * o + v) := by rw [hn]
  have : w' + P * B * o + P * r + P * c + P * v = w0 + x + P * r + P * c + P * v := by grind
  omega
/-- A number is given back. -/
theorem divGive (m : List Int) (hm : Ok 4294967296 m) (at_ : Nat) (rest0 out m2 : List Int) (by_ n2 at2 q2 : Int) (hlen : at_ + m.length < rest0.length) (hl : rest0.length ≤ 2000000000) :
    ∀ (k i c : Nat) (rest : List Int), i + k = m.length → rest.length = rest0.length → Ok 4294967296 rest → c ≤ 1 → (∀ p, at_ + i ≤ p → rest.getD p 0 = rest0.getD p 0) →
      W 4294967296 rest + 4294967296 ^ (at_ + i) * c = W 4294967296 rest0 + 4294967296 ^ at_ * W 4294967296 (m.take i) →
      ∃ (rest' : List Int) (o : Nat), rest'.length = rest0.length ∧ Ok 4294967296 rest' ∧ (∀ p, at_ + m.length < p → rest'.getD p 0 = rest0.getD p 0) ∧ o ≤ 1 ∧
        W 4294967296 rest' + 4294967296 ^ (at_ + m.length + 1) * o = W 4294967296 rest0 + 4294967296 ^ at_ * W 4294967296 m ∧
        divide_limbs_long_5 m (at_ : Int) (c : Int) (m.length : Int) (i : Int) rest out m2 by_ n2 at2 q2 =
            (cond (decide (0 ≤ at2) && decide (at2 < (out.length : Int))) (divide_limbs_long_1 m2 by_ n2 (IntKind.i64.wrap (at2 - 1)) rest' (out.set at2.toNat (IntKind.u32.wrap q2))) none)
  | 0, i, c, rest, hi, hr, ho, hc, hsame, hw => by
    obtain rfl : i = m.length := by omega
    have hx := ho.getD (by decide) (at_ + m.length)
    have n0 : rest.getD (at_ + m.length) 0 = ((rest.getD (at_ + m.length) 0).toNat : Int) := by omega
    generalize hy : (rest.getD (at_ + m.length) 0).toNat = r at n0
    have en : IntKind.u32.wrap ((r : Int) + IntKind.u32.wrap (c : Int)) = (((r + c) % 4294967296 : Nat) : Int) := by
      rw [wrapU32 (n := (c : Int)) (by omega) (by omega), mod_u32]; omega
    have hset := fun v : Nat => W_set' 4294967296 rest (at_ + m.length) v (by omega)
    simp only [hy] at hset
    rw [List.take_length] at hw
    refine ⟨rest.set (at_ + m.length) (((r + c) % 4294967296 : Nat) : Int), (r + c) / 4294967296, by simp [hr], ho.set _ (by omega) (by omega), fun p hp => by rw [getD_set_ne _ _ _ _ (by omega)]; exact hsame p (by omega), by omega, ?_, ?_⟩
    · rw [Nat.pow_succ]
      exact give_last (4294967296 ^ (at_ + m.length)) _ _ _ _ c r ((r + c) % 4294967296) _ 4294967296 hw (hset _) (by omega)
    · rw [divide_limbs_long_5_eq, cF (decide_eq_false (by omega)), wA (by omega), cT (ix (by omega)), cT (ix (by omega)), Int.toNat_natCast, n0, en]
  | k + 1, i, c, rest, hi, hr, ho, hc, hsame, hw => by
    have hx := ho.getD (by decide) (at_ + i)
    have hmx := hm.getD (by decide) i
    have n0 : rest.getD (at_ + i) 0 = ((rest.getD (at_ + i) 0).toNat : Int) := by omega
    have n1 : m.getD i 0 = ((m.getD i 0).toNat : Int) := by omega
    generalize hy : (rest.getD (at_ + i) 0).toNat = r at n0
    generalize hd : (m.getD i 0).toNat = d at n1
    have en : IntKind.u64.wrap (IntKind.u64.wrap (IntKind.u64.wrap (r : Int) + IntKind.u64.wrap (d : Int)) + (c : Int)) = ((r + d + c : Nat) : Int) := by
      rw [wrapU64 (n := (r : Int)) (by omega) (by omega), wrapU64 (n := (d : Int)) (by omega) (by omega), wrapU64 (n := (r : Int) + (d : Int)) (by omega) (by omega), wrapU64 (by omega) (by omega)]; omega
    have hset := W_set' 4294967296 rest (at_ + i) ((r + d + c) % 4294967296) (by omega)
    rw [hy] at hset
    obtain ⟨rest', o, g1, g2, g3, g4, g5, g6⟩ := divGive m hm at_ rest0 out m2 by_ n2 at2 q2 hlen hl k (i + 1) ((r + d + c) / 4294967296) (rest.set (at_ + i) (((r + d + c) % 4294967296 : Nat) : Int)) (by omega) (by simp [hr]) (ho.set _ (by omega) (by omega)) (by omega)
        (fun p hp => by rw [getD_set_ne _ _ _ _ (by omega)]; exact hsame p (by omega)) (by
          rw [W_take, hd, ← Nat.add_assoc, Nat.pow_succ]
          exact give_step _ (4294967296 ^ at_) (4294967296 ^ i) _ _ _ _ d c r ((r + d + c) % 4294967296) _ 4294967296 (Nat.pow_add ..) hw hset (by omega))
    refine ⟨rest', o, g1, g2, g3, g4, g5, ?_⟩
    rw [divide_limbs_long_5_eq, cT (decide_eq_true (by omega)), wA (by omega), cT (ix (by omega)), cT (ix (by omega)), cT (ix (by omega)), cT (decide_eq_true (by decide)), Int.toNat_natCast, Int.toNat_natCast, n0, n1, en, p32, fd (by omega), mod_u32, wS (by omega),
      show ((r + d + c : Nat) : Int) / 4294967296 = (((r + d + c) / 4294967296 : Nat) : Int) by omega, show ((r + d + c : Nat) : Int) % 4294967296 = (((r + d + c) % 4294967296 : Nat) : Int) by omega]
    exact g6
end Go.Proofs.YtodfaihlddiokaaGreatDoor.P

/- Division by more than one limb, and DivMod: the whole. -/
set_option linter.unusedVariables false
set_option linter.unusedSimpArgs false
namespace Go.Proofs.YtodfaihlddiokaaGreatDoor.P
open Go Go.Proofs.YtodfaihlddiokaaGreatDoor.K Go.Proofs.YtodfaihlddiokaaGreatDoor.C
theorem div_of_sub (U R V E : Nat) (hV : 0 < V) (h : U = R + V * E) : U / V = R / V + E ∧ U % V = R % V := by
  subst h
  exact ⟨Nat.add_mul_div_left _ _ hV, Nat.add_mul_mod_self_left ..⟩
theorem le_of_mul_lt {q Q D U : Nat} (h : q * D ≤ U) (h2 : U < (Q + 1) * D) : q ≤ Q := by
  have : q * D < (Q + 1) * D := Nat.lt_of_le_of_lt h h2
  exact Nat.lt_succ_iff.1 (Nat.lt_of_mul_lt_mul_right this)
theorem top_le (top next third high low P U' V' : Nat) (h : ((top * 4294967296 + next) * 4294967296 + third) * P + U' < ((high * 4294967296 + low) * P + V') * 4294967296) (hV : V' < P) (hlow : low < 4294967296) : top ≤ high := by
  have h1 : ((top * 4294967296 + next) * 4294967296 + third) * P < ((high * 4294967296 + low + 1) * 4294967296) * P := by
    have e : ((high * 4294967296 + low + 1) * 4294967296) * P = ((high * 4294967296 + low) * P + P) * 4294967296 := by rw [Nat.mul_right_comm, Nat.succ_mul]
    rw [e]; omega
  have := Nat.lt_of_mul_lt_mul_right h1
  omega
theorem eU_plain (U P t n p B : Nat) : U + P * t + P * B * n + P * B * B * p = ((p * B + n) * B + t) * P + U := by grind
theorem eD_plain (V Pk Pn l h B : Nat) : (V + Pn * l + Pn * B * h) * Pk = (h * B + l) * (Pk * Pn) + V * Pk := by grind
set_option maxHeartbeats 1000000 in
theorem divDigit (m rest : List Int) (hm : Ok 4294967296 m) (n k : Nat) (hmn : m.length = n + 2) (hh : 2147483648 ≤ (m.getD (n + 1) 0).toNat) (ho : Ok 4294967296 rest) (hr : k + n + 2 < rest.length) (hw : W 4294967296 rest < W 4294967296 m * 4294967296 ^ (k + 1)) :
    ∃ q : Nat, q < 4294967296 ∧ divide_guess (rest.getD (k + n + 2) 0) (rest.getD (k + n + 1) 0) (rest.getD (k + n) 0) (m.getD (n + 1) 0) (m.getD n 0) = some (q : Int) ∧
      W 4294967296 rest / (W 4294967296 m * 4294967296 ^ k) ≤ q ∧ q ≤ W 4294967296 rest / (W 4294967296 m * 4294967296 ^ k) + 1 ∧ W 4294967296 rest < 4294967296 ^ (k + n + 3) ∧ 0 < W 4294967296 m * 4294967296 ^ k := by
  have hVlt := W_lt hm
  rw [hmn] at hVlt
  have d0 := ho.getD (by decide) (k + n)
  have d1 := ho.getD (by decide) (k + n + 1)
  have d2 := ho.getD (by decide) (k + n + 2)
  have m0 := hm.getD (by decide) n
  have m1 := hm.getD (by decide) (n + 1)
  have hUT : W 4294967296 rest < 4294967296 ^ (k + n + 3) := by
    refine Nat.lt_of_lt_of_le hw ?_
    rw [show k + n + 3 = (n + 2) + (k + 1) by omega, Nat.pow_add 4294967296 (n + 2) (k + 1)]
    exact Nat.mul_le_mul_right _ (Nat.le_of_lt hVlt)
  have hUs := W_take_lt (by decide) ho (k + n + 3) hUT
  rw [W_take, W_take, W_take] at hUs
  have hVs := W_all 4294967296 m (n + 2) (by omega)
  rw [W_take, W_take] at hVs
  have hU' := W_lt (ho.take (k + n))
  rw [List.length_take, Nat.min_eq_left (by omega)] at hU'
  have hV' := W_lt (hm.take n)
  rw [List.length_take, Nat.min_eq_left (by omega)] at hV'
  have hwD : W 4294967296 rest < W 4294967296 m * 4294967296 ^ k * 4294967296 := by rw [Nat.pow_succ, ← Nat.mul_assoc] at hw; exact hw
  have b0 : rest.getD (k + n) 0 = ((rest.getD (k + n) 0).toNat : Int) := by omega
  have b1 : rest.getD (k + n + 1) 0 = ((rest.getD (k + n + 1) 0).toNat : Int) := by omega
  have b2 : rest.getD (k + n + 2) 0 = ((rest.getD (k + n + 2) 0).toNat : Int) := by omega
  have c0 : m.getD n 0 = ((m.getD n 0).toNat : Int) := by omega
  have c1 : m.getD (n + 1) 0 = ((m.getD (n + 1) 0).toNat : Int) := by omega
  have t1 : (rest.getD (k + n + 1) 0).toNat < 4294967296 := by omega
  have t0 : (rest.getD (k + n) 0).toNat < 4294967296 := by omega
  have l0 : (m.getD n 0).toNat < 4294967296 := by omega
  have l1 : (m.getD (n + 1) 0).toNat < 4294967296 := by omega
  clear d0 d1 d2 m0 m1
  rw [b0, b1, b2, c0, c1]
  clear b0 b1 b2 c0 c1
  generalize W 4294967296 (rest.take (k + n)) = U' at *
  generalize W 4294967296 (m.take n) = V' at *
  generalize (rest.getD (k + n) 0).toNat = third at *
  generalize (rest.getD (k + n + 1) 0).toNat = next at *
  generalize (rest.getD (k + n + 2) 0).toNat = top at *
  generalize (m.getD n 0).toNat = low at *
  generalize (m.getD (n + 1) 0).toNat = high at *
  generalize W 4294967296 rest = U at *
  generalize W 4294967296 m = V at *
  have eP : 4294967296 ^ (k + n) = 4294967296 ^ k * 4294967296 ^ n := Nat.pow_add ..
  have eU : U = ((top * 4294967296 + next) * 4294967296 + third) * 4294967296 ^ (k + n) + U' := by
    rw [← hUs, show 4294967296 ^ (k + n + 2) = 4294967296 ^ (k + n) * 4294967296 * 4294967296 by rw [Nat.pow_succ, Nat.pow_succ], show 4294967296 ^ (k + n + 1) = 4294967296 ^ (k + n) * 4294967296 by rw [Nat.pow_succ]]
    exact eU_plain ..
  have eD : V * 4294967296 ^ k = (high * 4294967296 + low) * 4294967296 ^ (k + n) + V' * 4294967296 ^ k := by
    rw [← hVs, show 4294967296 ^ (n + 1) = 4294967296 ^ n * 4294967296 by rw [Nat.pow_succ], eP]
    exact eD_plain ..
  have hV'' : V' * 4294967296 ^ k < 4294967296 ^ (k + n) := by
    rw [eP, Nat.mul_comm]
    exact Nat.mul_lt_mul_of_pos_left hV' (Nat.pow_pos (by decide))
  have hPpos : 0 < 4294967296 ^ (k + n) := Nat.pow_pos (by decide)
  clear hVs hUs hw hV' eP hVlt
  have hlt := hwD
  rw [eU, eD] at hlt
  rw [eD, eU]
  rw [eU] at hUT
  clear eU eD hwD
  generalize V' * 4294967296 ^ k = V'' at *
  generalize 4294967296 ^ (k + n) = P at *
  have htop := top_le top next third high low _ U' _ hlt hV'' l0
  have hk1 := knuth P _ U' (high * 4294967296 + low) V'' hU' hV'' hlt (by omega)
  have hg := divGuess top next third high low htop t1 t0 l1 hh l0
  exact ⟨_, Nat.lt_of_le_of_lt (Nat.min_le_left _ _) (by decide), hg, hk1.1, hk1.2, hUT, Nat.lt_of_lt_of_le (Nat.mul_pos (by omega) hPpos) (Nat.le_add_right ..)⟩
set_option maxHeartbeats 1000000 in
theorem divLong1 (m : List Int) (hm : Ok 4294967296 m) (n : Nat) (hmn : m.length = n + 2) (hn : n ≤ 900000000) (hh : 2147483648 ≤ (m.getD (n + 1) 0).toNat) (s : Nat) (hs : s < 32) (Lr : Nat) (hL : Lr ≤ 2000000000) : ∀ (k : Nat) (rest out : List Int),
    k + (n + 2) ≤ Lr → rest.length = Lr → Ok 4294967296 rest → Ok 4294967296 out → k ≤ out.length → out.length ≤ Lr → (∀ p, p < k → out.getD p 0 = 0) → W 4294967296 rest < W 4294967296 m * 4294967296 ^ k →
    ∃ o r, divide_limbs_long_1 m (s : Int) ((n + 2 : Nat) : Int) ((k : Int) - 1) rest out = some (o, r) ∧ Ok 4294967296 o ∧ o.length = out.length ∧ Ok 4294967296 r ∧ r.length = n + 2 ∧ W 4294967296 o = W 4294967296 out + W 4294967296 rest / W 4294967296 m ∧ W 4294967296 r = W 4294967296 rest % W 4294967296 m / 2 ^ s
  | 0, rest, out, hk, hr, ho, hoo, hko, hol, hz, hw => by
    have hVlt := W_lt hm
    rw [hmn] at hVlt
    have hw' : W 4294967296 rest < W 4294967296 m := by simpa using hw
    obtain ⟨r, h, h1, h2, h3⟩ := divBack (rest.take (n + 2)) (ho.take _) (by simp; omega) s hs
    refine ⟨out, r, ?_, hoo, rfl, h2, by rw [h1]; simp; omega, by rw [Nat.div_eq_of_lt hw']; rfl, ?_⟩
    · rw [divide_limbs_long_1_eq, cF (decide_eq_false (by omega)), cT (inC (by omega)), List.drop_zero, Int.toNat_natCast, Nat.sub_zero, h]; rfl
    · rw [h3, W_take_lt (by decide) ho _ (by omega), Nat.mod_eq_of_lt hw']
  | k + 1, rest, out, hk, hr, ho, hoo, hko, hol, hz, hw => by
    obtain ⟨q, hq, hg, hk1a, hk1b, hUT, hDpos⟩ := divDigit m rest hm n k hmn hh ho (by omega) hw
    have hwD : W 4294967296 rest < W 4294967296 m * 4294967296 ^ k * 4294967296 := by rw [Nat.pow_succ, ← Nat.mul_assoc] at hw; exact hw
    have d0 := ho.getD (by decide) (k + n)
    have d1 := ho.getD (by decide) (k + n + 1)
    have d2 := ho.getD (by decide) (k + n + 2)
    have m0 := hm.getD (by decide) n
    have m1 := hm.getD (by decide) (n + 1)
    have hVpos : 0 < W 4294967296 m := Nat.pos_of_mul_pos_right hDpos
    have hQ1 := Nat.div_mul_le_self (W 4294967296 rest) (W 4294967296 m * 4294967296 ^ k)
    have hQ2 : W 4294967296 rest < (W 4294967296 rest / (W 4294967296 m * 4294967296 ^ k) + 1) * (W 4294967296 m * 4294967296 ^ k) := by
      have h1 := Nat.div_add_mod (W 4294967296 rest) (W 4294967296 m * 4294967296 ^ k)
      have h2 := Nat.mod_lt (W 4294967296 rest) hDpos
      rw [Nat.succ_mul, Nat.mul_comm (W 4294967296 rest / _)]
      omega
    generalize W 4294967296 rest / (W 4294967296 m * 4294967296 ^ k) = Q at *
    have hlr : k + m.length < rest.length := by omega
    -- what comes when the right digit is known
    have done : ∀ R : List Int, R.length = rest.length → Ok 4294967296 R → W 4294967296 R + Q * (W 4294967296 m * 4294967296 ^ k) = W 4294967296 rest → ∃ o r, (cond (decide (0 ≤ (k : Int)) && decide ((k : Int) < (out.length : Int))) (divide_limbs_long_1 m (s : Int) ((n + 2 : Nat) : Int) (IntKind.i64.wrap ((k : Int) - 1)) R (out.set (k : Int).toNat (IntKind.u32.wrap (Q : Int)))) none) = some (o, r) ∧
        Ok 4294967296 o ∧ o.length = out.length ∧ Ok 4294967296 r ∧ r.length = n + 2 ∧ W 4294967296 o = W 4294967296 out + W 4294967296 rest / W 4294967296 m ∧ W 4294967296 r = W 4294967296 rest % W 4294967296 m / 2 ^ s := by
      intro R hRl hRo hRw
      have hQB : Q < 4294967296 := by omega
      obtain ⟨o, r, g, g1, g2, g3, g4, g5, g6⟩ := divLong1 m hm n hmn hn (by omega) s hs Lr hL k R (out.set k (Q : Int)) (by omega) (by omega) hRo (hoo.set _ (by omega) (by omega)) (by simp; omega) (by simp; omega)
        (fun p hp => by rw [getD_set_ne _ _ _ _ (by omega)]; exact hz p (by omega)) (by rw [Nat.succ_mul] at hQ2; omega)
      have hd := div_of_sub (W 4294967296 rest) (W 4294967296 R) (W 4294967296 m) (4294967296 ^ k * Q) hVpos (by rw [← hRw, Nat.mul_left_comm Q, Nat.mul_comm Q])
      have hset := W_set' 4294967296 out k Q (by omega)
      rw [hz k (by omega)] at hset
      simp only [Int.toNat_zero, Nat.mul_zero, Nat.add_zero] at hset
      refine ⟨o, r, ?_, g1, by rw [g2]; simp, g3, g4, by rw [g5, hset, hd.1]; omega, by rw [g6, hd.2]⟩
      rw [cT (ix (by omega)), wrap64 (by omega) (by omega), Int.toNat_natCast, wrapU32 (by omega) (by omega)]
      exact g
    have above : ∀ R : List Int, Ok 4294967296 R → (∀ p, k + m.length < p → R.getD p 0 = rest.getD p 0) → W 4294967296 R < 4294967296 ^ (k + m.length + 1) := fun R hRo hR =>
      W_lt_above (by decide) hRo _ fun p hp => by rw [hR p (by omega)]; exact W_above (by decide) ho (k + n + 3) p hUT (by omega)
    obtain ⟨rest', neg, t1, t2, t3, t4, t5, t6⟩ := divTake m hm q hq k rest out m (s : Int) ((n + 2 : Nat) : Int) (k : Int) (q : Int) hlr (by omega) m.length 0 0 0 rest (Nat.zero_add _) rfl ho (by omega) (by omega) (fun p _ => rfl) (by simp [W])
    have t6' : divide_limbs_long_3 m (q : Int) (k : Int) 0 0 (m.length : Int) 0 rest out m (s : Int) ((n + 2 : Nat) : Int) (k : Int) (q : Int) = _ := t6
    have a1 := above rest' t2 t3
    rw [show 4294967296 ^ k * (q * W 4294967296 m) = q * (W 4294967296 m * 4294967296 ^ k) by rw [Nat.mul_left_comm, Nat.mul_comm (4294967296 ^ k)]] at t5
    rw [divide_limbs_long_1_eq, show (((k + 1 : Nat) : Int) - 1) = (k : Int) by omega, cT (decide_eq_true (by omega)), wA (by omega),
      show IntKind.i64.wrap (((k + (n + 2) : Nat) : Int) - 1) = ((k + n + 1 : Nat) : Int) by rw [wrap64 (by omega) (by omega)]; omega,
      show IntKind.i64.wrap (((k + (n + 2) : Nat) : Int) - 2) = ((k + n : Nat) : Int) by rw [wrap64 (by omega) (by omega)]; omega,
      show IntKind.i64.wrap (((n + 2 : Nat) : Int) - 1) = ((n + 1 : Nat) : Int) by rw [wrap64 (by omega) (by omega)]; omega,
      show IntKind.i64.wrap (((n + 2 : Nat) : Int) - 2) = ((n : Nat) : Int) by rw [wrap64 (by omega) (by omega)]; omega,
      cT (ix (by omega)), cT (ix (by omega)), cT (ix (by omega)), cT (ix (by omega)), cT (ix (by omega)), Int.toNat_natCast, Int.toNat_natCast, Int.toNat_natCast, Int.toNat_natCast, Int.toNat_natCast, show k + (n + 2) = k + n + 2 by omega,
      wrapU64 (n := rest.getD (k + n + 2) 0) (by omega) (by omega), wrapU64 (n := rest.getD (k + n + 1) 0) (by omega) (by omega), wrapU64 (n := rest.getD (k + n) 0) (by omega) (by omega), wrapU64 (n := m.getD (n + 1) 0) (by omega) (by omega), wrapU64 (n := m.getD n 0) (by omega) (by omega),
      hg, Option.bind_some, divide_limbs_long_2_eq, t6']
    rcases Nat.lt_or_ge neg 1 with h0 | h1
    · obtain rfl : neg = 0 := by omega
      rw [cF (decide_eq_false (by omega))]
      rw [Nat.mul_zero, Nat.add_zero] at t5
      have : q ≤ Q := le_of_mul_lt (U := W 4294967296 rest) (by omega) hQ2
      obtain rfl : q = Q := by omega
      exact done rest' (by omega) t2 t5
    · obtain rfl : neg = 1 := by omega
      rw [cT (decide_eq_true rfl)]
      rw [Nat.mul_one] at t5
      have hqQ : q = Q + 1 := by
        rcases Nat.lt_or_ge Q q with h | h
        · omega
        · have := Nat.mul_le_mul_right (W 4294967296 m * 4294967296 ^ k) h
          omega
      obtain ⟨R, o, v1, v2, v3, v4, v5, v6⟩ := divGive m hm k rest' out m (s : Int) ((n + 2 : Nat) : Int) (k : Int) (Q : Int) (by omega) (by omega) m.length 0 0 rest' (Nat.zero_add _) rfl t2 (by omega) (fun p _ => rfl) (by simp [W])
      have v6' : divide_limbs_long_5 m (k : Int) 0 (m.length : Int) 0 rest' out m (s : Int) ((n + 2 : Nat) : Int) (k : Int) (Q : Int) = _ := v6
      have a2 := above R v2 (fun p hp => by rw [v3 p hp, t3 p hp])
      rw [divide_limbs_long_4_eq, show IntKind.u64.wrap ((q : Int) - 1) = (Q : Int) by rw [wrapU64 (by omega) (by omega)]; omega, v6']
      rw [Nat.mul_comm (4294967296 ^ k)] at v5
      rw [hqQ, Nat.succ_mul] at t5
      rcases Nat.lt_or_ge o 1 with h | h
      · obtain rfl : o = 0 := by omega
        exfalso
        omega
      · obtain rfl : o = 1 := by omega
        rw [Nat.mul_one] at v5
        exact done R (by omega) v2 (by omega)
theorem blen_bounds (h : Nat) : h < 2 ^ blen h ∧ (h ≠ 0 → 2 ^ blen h ≤ 2 * h) := by
  induction h using Nat.strongRecOn with
  | _ h ih =>
    by_cases h0 : h = 0
    · subst h0; simp [blen_zero]
    · obtain ⟨i1, i2⟩ := ih (h / 2) (by omega)
      rw [blen_pos h0, Nat.pow_succ]
      refine ⟨by omega, fun _ => ?_⟩
      by_cases h1 : h / 2 = 0
      · rw [h1, blen_zero]; omega
      · have := i2 h1; omega
theorem divLong (a b : Nat) (hb : 2 ≤ (limbs b).length) (hab : b ≤ a) (ha : (limbs a).length ≤ 500000000) : ∃ o r, divide_limbs_long (limbs a) (limbs b) = some (o, r) ∧ Ok 4294967296 o ∧ o.length ≤ 1000000000 ∧ Ok 4294967296 r ∧ r.length ≤ 1000000000 ∧ W 4294967296 o = a / b ∧ W 4294967296 r = a % b := by
  obtain ⟨n, hn⟩ : ∃ n, (limbs b).length = n + 2 := ⟨(limbs b).length - 2, by omega⟩
  have hle : (limbs b).length ≤ (limbs a).length := by
    rcases Nat.lt_or_ge (limbs a).length (limbs b).length with h | h
    · have := limbs_len_lt h; omega
    · exact h
  have hb0 : b ≠ 0 := fun e => by rw [e, limbs_zero] at hb; simp at hb
  have hlow := limbs_low hb0
  have hbl := lt_limbs b
  have hal := lt_limbs a
  rw [hn, show n + 2 - 1 = n + 1 by omega] at hlow
  rw [hn] at hbl
  have hx := (limbs_ok b).getD (by decide) (n + 1)
  have hd := W_digit (by decide) (limbs_ok b) (n + 1)
  rw [W_limbs] at hd
  have hlt : b / 4294967296 ^ (n + 1) < 4294967296 := (Nat.div_lt_iff_lt_mul (Nat.pow_pos (by decide))).2 (by rw [Nat.mul_comm, ← Nat.pow_succ]; exact hbl)
  rw [Nat.mod_eq_of_lt hlt] at hd
  have hpos : 0 < b / 4294967296 ^ (n + 1) := Nat.div_pos hlow (Nat.pow_pos (by decide))
  have hda := Nat.div_add_mod b (4294967296 ^ (n + 1))
  have hma := Nat.mod_lt b (Nat.pow_pos (n := n + 1) (show 0 < 4294967296 by decide))
  have n0 : (limbs b).getD (n + 1) 0 = (((limbs b).getD (n + 1) 0).toNat : Int) := by omega
  rw [hd] at n0
  generalize b / 4294967296 ^ (n + 1) = h at *
  obtain ⟨hb1, hb2⟩ := blen_bounds h
  have hb2 := hb2 (by omega)
  have hb32 := blen_le h (by omega)
  have hb3 : blen h ≠ 0 := fun e => by rw [e] at hb1; simp at hb1; omega
  obtain ⟨s, hs⟩ : ∃ s, s + blen h = 32 := ⟨32 - blen h, by omega⟩
  have hp : 2 ^ s * 2 ^ blen h = 4294967296 := by rw [← Nat.pow_add, hs]
  have hsp : 0 < 2 ^ s := Nat.two_pow_pos s
  have p1 : (h + 1) * 2 ^ s ≤ 4294967296 := by rw [← hp, Nat.mul_comm]; exact Nat.mul_le_mul_left _ hb1
  have p2 : 2147483648 ≤ h * 2 ^ s := by
    have : 2 ^ s * 2 ^ blen h ≤ 2 ^ s * (2 * h) := Nat.mul_le_mul_left _ hb2
    rw [hp, Nat.mul_left_comm, Nat.mul_comm (2 ^ s)] at this
    omega
  have hlz : math_bits_LeadingZeros32 ((limbs b).getD (n + 1) 0) = some (s : Int) := by
    refine (top_call ..).trans ?_
    show lz32F ((limbs b).getD (n + 1) 0) = _
    unfold lz32F
    rw [n0, cT (by simp; omega), Int.toNat_natCast, bitLen_blen h (by omega)]
    congr 1
    omega
  obtain ⟨R, e1, q1, q2, q3⟩ := divShift (limbs a) (limbs_ok a) (by omega) s (by omega)
  obtain ⟨M, e2, r1, r2, r3⟩ := divShift (limbs b) (limbs_ok b) (by omega) s (by omega)
  rw [W_limbs] at q3 r3
  have hbs : b * 2 ^ s < 4294967296 ^ (n + 2) := by
    have h1 : b < 4294967296 ^ (n + 1) * (h + 1) := by rw [Nat.mul_succ]; omega
    have h2 : b * 2 ^ s < 4294967296 ^ (n + 1) * (h + 1) * 2 ^ s := Nat.mul_lt_mul_of_pos_right h1 hsp
    rw [Nat.mul_assoc] at h2
    have h3 := Nat.mul_le_mul_left (4294967296 ^ (n + 1)) p1
    rw [Nat.pow_succ]
    omega
  have hMW : W 4294967296 (M.take (n + 2)) = b * 2 ^ s := by rw [← r3]; exact W_take_lt (by decide) r2 _ (by rw [r3]; exact hbs)
  have hMl : (M.take (n + 2)).length = n + 2 := by simp; omega
  have hhigh : 2147483648 ≤ ((M.take (n + 2)).getD (n + 1) 0).toNat := by
    rw [W_digit (by decide) (r2.take _), hMW, Nat.mod_eq_of_lt ((Nat.div_lt_iff_lt_mul (Nat.pow_pos (by decide))).2 (by rw [Nat.mul_comm (4294967296), ← Nat.pow_succ]; exact hbs)), Nat.le_div_iff_mul_le (Nat.pow_pos (by decide))]
    have h1 : 4294967296 ^ (n + 1) * h ≤ b := by omega
    have h2 := Nat.mul_le_mul_right (2 ^ s) h1
    have h3 := Nat.mul_le_mul_left (4294967296 ^ (n + 1)) p2
    rw [Nat.mul_assoc] at h2
    rw [Nat.mul_comm]
    omega
  obtain ⟨la, hla⟩ : ∃ la, (limbs a).length = la + (n + 2) := ⟨(limbs a).length - (n + 2), by omega⟩
  have hrest : W 4294967296 R < W 4294967296 (M.take (n + 2)) * 4294967296 ^ (la + 1) := by
    rw [q3, hMW, Nat.mul_right_comm]
    refine Nat.mul_lt_mul_of_pos_right ?_ hsp
    refine Nat.lt_of_lt_of_le hal ?_
    rw [hla, show la + (n + 2) = (n + 1) + (la + 1) by omega, Nat.pow_add]
    exact Nat.mul_le_mul_right _ (by omega)
  obtain ⟨o, r, g, g1, g2, g3, g4, g5, g6⟩ := divLong1 (M.take (n + 2)) (r2.take _) n hMl (by omega) hhigh s (by omega) (la + (n + 2) + 1) (by omega) (la + 1) R (List.replicate (la + 1) 0) (by omega) (by omega) q2 (Ok.zeros (by decide) _) (by simp) (by simp) (fun p _ => zeros_getD _ _) hrest
  rw [q3, hMW] at g5 g6
  refine ⟨o, r, ?_, g1, by rw [g2]; simp; omega, g3, by omega, ?_, ?_⟩
  · rw [divide_limbs_long_eq, hn, hla, show IntKind.i64.wrap (((n + 2 : Nat) : Int) - 1) = ((n + 1 : Nat) : Int) by rw [wrap64 (by omega) (by omega)]; omega, cT (ix (by omega)), Int.toNat_natCast, hlz, Option.bind_some, e1, Option.bind_some, e2, Option.bind_some, cT (inC (by omega))]
    simp only [Int.toNat_natCast, Nat.sub_zero, Int.sub_zero, List.drop_zero]
    rw [show IntKind.i64.wrap (((la + (n + 2) : Nat) : Int) - ((n + 2 : Nat) : Int)) = ((la : Nat) : Int) by rw [wrap64 (by omega) (by omega)]; omega, wS (by omega), cT (by simp; omega), Int.toNat_natCast]
    rw [show (((la + 1 : Nat) : Int) - 1) = (la : Int) by omega] at g
    exact g
  · rw [g5, W_zeros, Nat.zero_add, Nat.mul_div_mul_right _ _ hsp]
  · rw [g6, Nat.mul_mod_mul_right, Nat.mul_div_cancel _ hsp]
theorem divDivMod (a b : List UInt8) (ha : a.length ≤ 1000000000) (hb : b.length ≤ 1000000000) : divide_DivMod a b = some (divmod (val a) (val b)) := by
  have la := limbs_val a
  have lb := limbs_val b
  rw [divide_DivMod_eq, divRead a ha, Option.bind_some, divRead b hb, Option.bind_some, divmod]
  by_cases h0 : val b = 0
  · rw [if_pos h0, cT (decide_eq_true (by rw [limbs_nil.2 h0]; rfl))]
  · have hn0 : (limbs (val b)).length ≠ 0 := fun e => h0 (limbs_nil.1 e)
    rw [if_neg h0, cF (decide_eq_false (by omega)), natCmp a b (by omega) (by omega), Option.bind_some]
    by_cases hlt : val a < val b
    · rw [cT (decide_eq_true (sgnv_neg.2 hlt)), natTrim, Option.bind_some, Nat.div_eq_of_lt hlt, Nat.mod_eq_of_lt hlt, nat_zero]
    · have hns : ¬ sgnv (val a) (val b) < 0 := fun h => hlt (sgnv_neg.1 h)
      rw [cF (decide_eq_false hns)]
      by_cases h1 : (limbs (val b)).length = 1
      · have hbb := lt_limbs (val b)
        rw [h1, Nat.pow_one] at hbb
        have hg : (limbs (val b)).getD 0 0 = ((val b : Nat) : Int) := by rw [limbs_getD]; simp only [Nat.pow_zero, Nat.div_one]; rw [Nat.mod_eq_of_lt hbb]
        obtain ⟨out, e, o1, o2, o3⟩ := divShort (limbs (val a)) (val b) (by omega) hbb (limbs_ok _) (by omega)
        rw [W_limbs] at e o3
        have hm := Nat.mod_lt (val a) (show 0 < val b by omega)
        rw [cT (decide_eq_true (by omega)), cT (by rw [h1]; rfl), hg, e, Option.bind_some, divide_DivMod_1_eq, divText out (by omega) o1, Option.bind_some, divText _ (by simp) ((Ok.nil _).cons (Int.natCast_nonneg _) (by omega)), Option.bind_some, o3, W, W, Nat.mul_zero, Nat.add_zero, Int.toNat_natCast]
      · obtain ⟨o, r, e, o1, o2, o3, o4, o5, o6⟩ := divLong (val a) (val b) (by omega) (by omega) (by omega)
        rw [cF (decide_eq_false (by omega)), e, Option.bind_some, divide_DivMod_1_eq, divText o o2 o1, Option.bind_some, divText r o4 o3, Option.bind_some, o5, o6]
end Go.Proofs.YtodfaihlddiokaaGreatDoor.P

/- The tables are the program's own. -/
set_option linter.unusedVariables false
set_option maxRecDepth 100000
namespace Go.Proofs.YtodfaihlddiokaaGreatDoor.C
open Go Go.Proofs.YtodfaihlddiokaaGreatDoor.K
theorem look_all {α : Type} {Q : Nat → α → Prop} : ∀ {l : List (Nat × α)}, (∀ p ∈ l, Q p.1 p.2) → ∀ t v, look l t = some v → Q t v
  | [], _, t, v, h => by cases h
  | (u, x) :: l, hl, t, v, h => by
    simp only [look] at h
    split at h
    · rename_i hb
      have := Nat.eq_of_beq_eq_true hb
      subst this
      cases h
      exact hl _ (List.mem_cons_self ..)
    · exact look_all (fun p hp => hl p (List.mem_cons_of_mem _ hp)) t v h
theorem all_nil {α : Type} {Q : Nat → α → Prop} : ∀ p ∈ ([] : List (Nat × α)), Q p.1 p.2 := fun p h => by cases h
theorem all_cons {α : Type} {Q : Nat → α → Prop} {u : Nat} {x : α} {l : List (Nat × α)} (h : Q u x) (hl : ∀ p ∈ l, Q p.1 p.2) : ∀ p ∈ (u, x) :: l, Q p.1 p.2 := fun p hp => by
  rcases List.mem_cons.1 hp with rfl | hp
  · exact h
  · exact hl p hp
theorem tiok3 : TIok Tryz.prog 3 ti3 := ⟨by kernel_rfl, by kernel_rfl, by kernel_rfl, by kernel_rfl, by kernel_rfl, by kernel_rfl, by kernel_rfl, by kernel_rfl, ⟨by kernel_rfl, by kernel_rfl, by kernel_rfl⟩, fun h => by cases h⟩
theorem tiok5 : TIok Tryz.prog 5 ti5 := ⟨by kernel_rfl, by kernel_rfl, by kernel_rfl, by kernel_rfl, by kernel_rfl, by kernel_rfl, by kernel_rfl, by kernel_rfl, ⟨by kernel_rfl, by kernel_rfl, by kernel_rfl⟩, fun h => by cases h⟩
theorem tiok9 : TIok Tryz.prog 9 ti9 := ⟨by kernel_rfl, by kernel_rfl, by kernel_rfl, by kernel_rfl, by kernel_rfl, by kernel_rfl, by kernel_rfl, by kernel_rfl, ⟨by kernel_rfl, by kernel_rfl, by kernel_rfl⟩, fun h => by cases h⟩
theorem tiok63 : TIok Tryz.prog 63 ti63 := ⟨by kernel_rfl, by kernel_rfl, by kernel_rfl, by kernel_rfl, by kernel_rfl, by kernel_rfl, by kernel_rfl, by kernel_rfl, ⟨by kernel_rfl, by kernel_rfl, by kernel_rfl⟩, fun h => by cases h⟩
theorem tiok89 : TIok Tryz.prog 89 ti89 := ⟨by kernel_rfl, by kernel_rfl, by kernel_rfl, by kernel_rfl, by kernel_rfl, by kernel_rfl, by kernel_rfl, by kernel_rfl, ⟨by kernel_rfl, by kernel_rfl, by kernel_rfl⟩, fun h => by cases h⟩
theorem tiok90 : TIok Tryz.prog 90 ti90 := ⟨by kernel_rfl, by kernel_rfl, by kernel_rfl, by kernel_rfl, by kernel_rfl, by kernel_rfl, by kernel_rfl, by kernel_rfl, ⟨by kernel_rfl, by kernel_rfl, by kernel_rfl⟩, fun h => by cases h⟩
theorem tiok92 : TIok Tryz.prog 92 ti92 := ⟨by kernel_rfl, by kernel_rfl, by kernel_rfl, by kernel_rfl, by kernel_rfl, by kernel_rfl, by kernel_rfl, by kernel_rfl, ⟨by kernel_rfl, by kernel_rfl, by kernel_rfl⟩, fun h => by cases h⟩
theorem tiok99 : TIok Tryz.prog 99 ti99 := ⟨by kernel_rfl, by kernel_rfl, by kernel_rfl, by kernel_rfl, by kernel_rfl, by kernel_rfl, by kernel_rfl, by kernel_rfl, ⟨by kernel_rfl, by kernel_rfl, by kernel_rfl⟩, fun h => by cases h⟩
theorem tiok108 : TIok Tryz.prog 108 ti108 := ⟨by kernel_rfl, by kernel_rfl, by kernel_rfl, by kernel_rfl, by kernel_rfl, by kernel_rfl, by kernel_rfl, by kernel_rfl, ⟨by kernel_rfl, by kernel_rfl, by kernel_rfl⟩, fun h => by cases h⟩
theorem tiok117 : TIok Tryz.prog 117 ti117 := ⟨by kernel_rfl, by kernel_rfl, by kernel_rfl, by kernel_rfl, by kernel_rfl, by kernel_rfl, by kernel_rfl, by kernel_rfl, ⟨by kernel_rfl, by kernel_rfl, by kernel_rfl⟩, fun h => by cases h⟩
theorem tis_ok : CtxTI Tryz.prog CT := look_all (l := tis) (all_cons tiok3 (all_cons tiok5 (all_cons tiok9 (all_cons tiok63 (all_cons tiok89 (all_cons tiok90 (all_cons tiok92 (all_cons tiok99 (all_cons tiok108 (all_cons tiok117 all_nil))))))))))
def FnOk (f : Nat) (fn : Func) : Prop := Tryz.prog.funcs[f]? = some fn ∧ fn.body.isSome = true ∧ (fn.name == "runtime.NumGoroutine") = false
def ParOk (i : Nat) (fn : Func) : Prop := ((look ptsL i).getD []).length ≤ fn.ntmps
theorem fnok123 : FnOk 123 Tryz.f123 := ⟨Tryz.func123, by kernel_rfl, by kernel_rfl⟩
theorem parok123 : ParOk 123 Tryz.f123 := Nat.le_of_ble_eq_true (by kernel_rfl)
theorem fnok134 : FnOk 134 Tryz.f134 := ⟨Tryz.func134, by kernel_rfl, by kernel_rfl⟩
theorem parok134 : ParOk 134 Tryz.f134 := Nat.le_of_ble_eq_true (by kernel_rfl)
theorem fnok135 : FnOk 135 Tryz.f135 := ⟨Tryz.func135, by kernel_rfl, by kernel_rfl⟩
theorem parok135 : ParOk 135 Tryz.f135 := Nat.le_of_ble_eq_true (by kernel_rfl)
theorem fnok56 : FnOk 56 Tryz.f56 := ⟨Tryz.func56, by kernel_rfl, by kernel_rfl⟩
theorem parok56 : ParOk 56 Tryz.f56 := Nat.le_of_ble_eq_true (by kernel_rfl)
theorem fnok65 : FnOk 65 Tryz.f65 := ⟨Tryz.func65, by kernel_rfl, by kernel_rfl⟩
theorem parok65 : ParOk 65 Tryz.f65 := Nat.le_of_ble_eq_true (by kernel_rfl)
theorem fnok67 : FnOk 67 Tryz.f67 := ⟨Tryz.func67, by kernel_rfl, by kernel_rfl⟩
theorem parok67 : ParOk 67 Tryz.f67 := Nat.le_of_ble_eq_true (by kernel_rfl)
theorem fnok76 : FnOk 76 Tryz.f76 := ⟨Tryz.func76, by kernel_rfl, by kernel_rfl⟩
theorem parok76 : ParOk 76 Tryz.f76 := Nat.le_of_ble_eq_true (by kernel_rfl)
theorem fnok78 : FnOk 78 Tryz.f78 := ⟨Tryz.func78, by kernel_rfl, by kernel_rfl⟩
theorem parok78 : ParOk 78 Tryz.f78 := Nat.le_of_ble_eq_true (by kernel_rfl)
theorem fnok79 : FnOk 79 Tryz.f79 := ⟨Tryz.func79, by kernel_rfl, by kernel_rfl⟩
theorem parok79 : ParOk 79 Tryz.f79 := Nat.le_of_ble_eq_true (by kernel_rfl)
theorem fnok80 : FnOk 80 Tryz.f80 := ⟨Tryz.func80, by kernel_rfl, by kernel_rfl⟩
theorem parok80 : ParOk 80 Tryz.f80 := Nat.le_of_ble_eq_true (by kernel_rfl)
theorem fnok81 : FnOk 81 Tryz.f81 := ⟨Tryz.func81, by kernel_rfl, by kernel_rfl⟩
theorem parok81 : ParOk 81 Tryz.f81 := Nat.le_of_ble_eq_true (by kernel_rfl)
theorem fnok82 : FnOk 82 Tryz.f82 := ⟨Tryz.func82, by kernel_rfl, by kernel_rfl⟩
theorem parok82 : ParOk 82 Tryz.f82 := Nat.le_of_ble_eq_true (by kernel_rfl)
theorem fnok83 : FnOk 83 Tryz.f83 := ⟨Tryz.func83, by kernel_rfl, by kernel_rfl⟩
theorem parok83 : ParOk 83 Tryz.f83 := Nat.le_of_ble_eq_true (by kernel_rfl)
theorem fnok86 : FnOk 86 Tryz.f86 := ⟨Tryz.func86, by kernel_rfl, by kernel_rfl⟩
theorem parok86 : ParOk 86 Tryz.f86 := Nat.le_of_ble_eq_true (by kernel_rfl)
theorem fnok87 : FnOk 87 Tryz.f87 := ⟨Tryz.func87, by kernel_rfl, by kernel_rfl⟩
theorem parok87 : ParOk 87 Tryz.f87 := Nat.le_of_ble_eq_true (by kernel_rfl)
theorem fnok88 : FnOk 88 Tryz.f88 := ⟨Tryz.func88, by kernel_rfl, by kernel_rfl⟩
theorem parok88 : ParOk 88 Tryz.f88 := Nat.le_of_ble_eq_true (by kernel_rfl)
theorem fnok89 : FnOk 89 Tryz.f89 := ⟨Tryz.func89, by kernel_rfl, by kernel_rfl⟩
theorem parok89 : ParOk 89 Tryz.f89 := Nat.le_of_ble_eq_true (by kernel_rfl)
theorem fnok97 : FnOk 97 Tryz.f97 := ⟨Tryz.func97, by kernel_rfl, by kernel_rfl⟩
theorem parok97 : ParOk 97 Tryz.f97 := Nat.le_of_ble_eq_true (by kernel_rfl)
theorem fnok98 : FnOk 98 Tryz.f98 := ⟨Tryz.func98, by kernel_rfl, by kernel_rfl⟩
theorem parok98 : ParOk 98 Tryz.f98 := Nat.le_of_ble_eq_true (by kernel_rfl)
theorem fnok99 : FnOk 99 Tryz.f99 := ⟨Tryz.func99, by kernel_rfl, by kernel_rfl⟩
theorem parok99 : ParOk 99 Tryz.f99 := Nat.le_of_ble_eq_true (by kernel_rfl)
theorem fnok100 : FnOk 100 Tryz.f100 := ⟨Tryz.func100, by kernel_rfl, by kernel_rfl⟩
theorem parok100 : ParOk 100 Tryz.f100 := Nat.le_of_ble_eq_true (by kernel_rfl)
theorem fnok103 : FnOk 103 Tryz.f103 := ⟨Tryz.func103, by kernel_rfl, by kernel_rfl⟩
theorem parok103 : ParOk 103 Tryz.f103 := Nat.le_of_ble_eq_true (by kernel_rfl)
theorem fnok104 : FnOk 104 Tryz.f104 := ⟨Tryz.func104, by kernel_rfl, by kernel_rfl⟩
theorem parok104 : ParOk 104 Tryz.f104 := Nat.le_of_ble_eq_true (by kernel_rfl)
theorem fnok105 : FnOk 105 Tryz.f105 := ⟨Tryz.func105, by kernel_rfl, by kernel_rfl⟩
theorem parok105 : ParOk 105 Tryz.f105 := Nat.le_of_ble_eq_true (by kernel_rfl)
theorem fnok106 : FnOk 106 Tryz.f106 := ⟨Tryz.func106, by kernel_rfl, by kernel_rfl⟩
theorem parok106 : ParOk 106 Tryz.f106 := Nat.le_of_ble_eq_true (by kernel_rfl)
theorem fnok110 : FnOk 110 Tryz.f110 := ⟨Tryz.func110, by kernel_rfl, by kernel_rfl⟩
theorem parok110 : ParOk 110 Tryz.f110 := Nat.le_of_ble_eq_true (by kernel_rfl)
theorem fnok111 : FnOk 111 Tryz.f111 := ⟨Tryz.func111, by kernel_rfl, by kernel_rfl⟩
theorem parok111 : ParOk 111 Tryz.f111 := Nat.le_of_ble_eq_true (by kernel_rfl)
theorem fnok112 : FnOk 112 Tryz.f112 := ⟨Tryz.func112, by kernel_rfl, by kernel_rfl⟩
theorem parok112 : ParOk 112 Tryz.f112 := Nat.le_of_ble_eq_true (by kernel_rfl)
theorem fnok113 : FnOk 113 Tryz.f113 := ⟨Tryz.func113, by kernel_rfl, by kernel_rfl⟩
theorem parok113 : ParOk 113 Tryz.f113 := Nat.le_of_ble_eq_true (by kernel_rfl)
theorem fnok114 : FnOk 114 Tryz.f114 := ⟨Tryz.func114, by kernel_rfl, by kernel_rfl⟩
theorem parok114 : ParOk 114 Tryz.f114 := Nat.le_of_ble_eq_true (by kernel_rfl)
theorem fnok115 : FnOk 115 Tryz.f115 := ⟨Tryz.func115, by kernel_rfl, by kernel_rfl⟩
theorem parok115 : ParOk 115 Tryz.f115 := Nat.le_of_ble_eq_true (by kernel_rfl)
theorem fnok116 : FnOk 116 Tryz.f116 := ⟨Tryz.func116, by kernel_rfl, by kernel_rfl⟩
theorem parok116 : ParOk 116 Tryz.f116 := Nat.le_of_ble_eq_true (by kernel_rfl)
theorem fnok118 : FnOk 118 Tryz.f118 := ⟨Tryz.func118, by kernel_rfl, by kernel_rfl⟩
theorem parok118 : ParOk 118 Tryz.f118 := Nat.le_of_ble_eq_true (by kernel_rfl)
theorem fnok124 : FnOk 124 Tryz.f124 := ⟨Tryz.func124, by kernel_rfl, by kernel_rfl⟩
theorem parok124 : ParOk 124 Tryz.f124 := Nat.le_of_ble_eq_true (by kernel_rfl)
theorem fnok129 : FnOk 129 Tryz.f129 := ⟨Tryz.func129, by kernel_rfl, by kernel_rfl⟩
theorem parok129 : ParOk 129 Tryz.f129 := Nat.le_of_ble_eq_true (by kernel_rfl)
theorem fnok131 : FnOk 131 Tryz.f131 := ⟨Tryz.func131, by kernel_rfl, by kernel_rfl⟩
theorem parok131 : ParOk 131 Tryz.f131 := Nat.le_of_ble_eq_true (by kernel_rfl)
theorem fnok132 : FnOk 132 Tryz.f132 := ⟨Tryz.func132, by kernel_rfl, by kernel_rfl⟩
theorem parok132 : ParOk 132 Tryz.f132 := Nat.le_of_ble_eq_true (by kernel_rfl)
theorem fnok133 : FnOk 133 Tryz.f133 := ⟨Tryz.func133, by kernel_rfl, by kernel_rfl⟩
theorem parok133 : ParOk 133 Tryz.f133 := Nat.le_of_ble_eq_true (by kernel_rfl)
theorem fnok136 : FnOk 136 Tryz.f136 := ⟨Tryz.func136, by kernel_rfl, by kernel_rfl⟩
theorem parok136 : ParOk 136 Tryz.f136 := Nat.le_of_ble_eq_true (by kernel_rfl)
theorem fnok137 : FnOk 137 Tryz.f137 := ⟨Tryz.func137, by kernel_rfl, by kernel_rfl⟩
theorem parok137 : ParOk 137 Tryz.f137 := Nat.le_of_ble_eq_true (by kernel_rfl)
theorem fns_ok : ∀ f fn, look fns f = some fn → FnOk f fn := look_all (Q := FnOk) (l := fns) (all_cons fnok56 (all_cons fnok65 (all_cons fnok67 (all_cons fnok76 (all_cons fnok78 (all_cons fnok79 (all_cons fnok80 (all_cons fnok81 (all_cons fnok82 (all_cons fnok83 (all_cons fnok86 (all_cons fnok87 (all_cons fnok88 (all_cons fnok89 (all_cons fnok97 (all_cons fnok98 (all_cons fnok99 (all_cons fnok100 (all_cons fnok103 (all_cons fnok104 (all_cons fnok105 (all_cons fnok106 (all_cons fnok110 (all_cons fnok111 (all_cons fnok112 (all_cons fnok113 (all_cons fnok114 (all_cons fnok115 (all_cons fnok116 (all_cons fnok118 (all_cons fnok124 (all_cons fnok129 (all_cons fnok131 (all_cons fnok132 (all_cons fnok133 (all_cons fnok136 (all_cons fnok137 (all_cons fnok123 (all_cons fnok134 (all_cons fnok135 all_nil))))))))))))))))))))))))))))))))))))))))
theorem ctx_ok : CtxOk Tryz.prog CT := ⟨tis_ok, fns_ok, by kernel_rfl, inv_keeps⟩
theorem pars_ok : ∀ i fn, look fns i = some fn → ParOk i fn := look_all (Q := ParOk) (l := fns) (all_cons parok56 (all_cons parok65 (all_cons parok67 (all_cons parok76 (all_cons parok78 (all_cons parok79 (all_cons parok80 (all_cons parok81 (all_cons parok82 (all_cons parok83 (all_cons parok86 (all_cons parok87 (all_cons parok88 (all_cons parok89 (all_cons parok97 (all_cons parok98 (all_cons parok99 (all_cons parok100 (all_cons parok103 (all_cons parok104 (all_cons parok105 (all_cons parok106 (all_cons parok110 (all_cons parok111 (all_cons parok112 (all_cons parok113 (all_cons parok114 (all_cons parok115 (all_cons parok116 (all_cons parok118 (all_cons parok124 (all_cons parok129 (all_cons parok131 (all_cons parok132 (all_cons parok133 (all_cons parok136 (all_cons parok137 (all_cons parok123 (all_cons parok134 (all_cons parok135 all_nil))))))))))))))))))))))))))))))))))))))))
theorem sound (hE : ExtOk Tryz.prog CT) : ∀ k, SpecOk Tryz.prog (sem CT k) ∧ StageOk Tryz.prog (sem CT k) := sem_sound ctx_ok hE pars_ok
theorem ext_ok : ExtOk Tryz.prog CT := ext_of (l := extL) rfl (allE_cons (ext_at (H.cmp_ok)) (allE_cons (ext_at (H.text_ok inv_keeps (B.cut_ok inv_max) (B.trim_ok inv_max))) (allE_cons (ext_at (trimLeft_ok)) (allE_cons (ext_at (H.short_ok)) (allE_cons (ext_at (H.textDiv_ok inv_keeps (B.trim_ok inv_max))) (allE_cons (ext_at (len_ok)) (allE_cons (ext_at (lz32_ok)) allE_nil)))))))
theorem spec_ok (k : Nat) : SpecOk Tryz.prog (sem CT k) := (sound ext_ok k).1
end Go.Proofs.YtodfaihlddiokaaGreatDoor.C

/- Contracts of naturals, told by numbers: what the machine of tier C shows. -/
set_option linter.unusedVariables false
set_option linter.unusedSimpArgs false
namespace Go.Proofs.YtodfaihlddiokaaGreatDoor.Q
open Go Go.Proofs.YtodfaihlddiokaaGreatDoor.K Go.Proofs.YtodfaihlddiokaaGreatDoor.C Go.Proofs.YtodfaihlddiokaaGreatDoor.P
def ok1 (s : List UInt8) : Bool := Nat.ble s.length 1000000000
def trimQ (s : List UInt8) : Option (List UInt8) := cond (ok1 s) (some (Lib.trimLeftB s 0)) none
def ofQ (n : Int) : Option (List UInt8) := cond (decide (0 ≤ n) && decide (n < 18446744073709551616)) (some (nat n.toNat)) none
def smallQ (s : List UInt8) : Option (Int × Bool) := cond (ok1 s) (some (small (val s))) none
def addQ (y : List UInt8 × List UInt8) : Option (List UInt8) := cond (ok1 y.1 && ok1 y.2) (some (nat (val y.1 + val y.2))) none
def mulQ (y : List UInt8 × List UInt8) : Option (List UInt8) := cond (ok1 y.1 && ok1 y.2) (some (nat (val y.1 * val y.2))) none
def divQ (y : List UInt8 × List UInt8) : Option (List UInt8 × List UInt8 × Int) := cond (ok1 y.1 && ok1 y.2) (some (divmod (val y.1) (val y.2))) none
theorem ok1_le {s : List UInt8} (h : ok1 s = true) : s.length ≤ 1000000000 := Nat.le_of_ble_eq_true h
theorem ok2_le {a b : List UInt8} (h : (ok1 a && ok1 b) = true) : a.length ≤ 1000000000 ∧ b.length ≤ 1000000000 := by
  rw [Bool.and_eq_true] at h
  exact ⟨ok1_le h.1, ok1_le h.2⟩
theorem call_of {i : Nat} (hf : (C.CT.fn (C.CT.fid i)).isSome = true) {g : den (tyL (C.CT.pts i)) → Option (den (tyL (C.CT.rts i)))} (hg : ∀ y r, g y = some r → (top C.CT).callF i y = some r) {inv : World → Prop} (hi : ∀ w, inv w → MaxLen w) :
    CallT Tryz.prog (C.CT.fid i) (C.CT.pts i) (C.CT.rts i) inv g := B.callT_of (C := C.CT) C.spec_ok hf hg hi
variable {inv : World → Prop} (hi : ∀ w, inv w → MaxLen w)
include hi
theorem trim_ok : CallT Tryz.prog 97 [.str] [.str] inv trimQ := call_of (i := 97) (by kernel_rfl) (g := trimQ) (fun y r h => by
  obtain ⟨hc, rfl⟩ := cond_some h
  exact (natTrim y).trans (congrArg some (trimB y).symm)) hi
theorem of_ok : CallT Tryz.prog 78 [.int .u64] [.str] inv ofQ := call_of (i := 78) (by kernel_rfl) (g := ofQ) (fun y r h => by
  obtain ⟨hc, rfl⟩ := cond_some h
  simp only [Bool.and_eq_true, decide_eq_true_eq] at hc
  obtain ⟨n, rfl⟩ := Int.eq_ofNat_of_zero_le hc.1
  exact natOf n (by omega)) hi
theorem small_ok : CallT Tryz.prog 129 [.str] [.int .u64, .bool] inv smallQ := call_of (i := 129) (by kernel_rfl) (g := smallQ) (fun y r h => by
  obtain ⟨hc, rfl⟩ := cond_some h
  have := ok1_le hc
  exact natSmall y (by omega)) hi
theorem add_ok : CallT Tryz.prog 110 [.str, .str] [.str] inv addQ := call_of (i := 110) (by kernel_rfl) (g := addQ) (fun y r h => by
  obtain ⟨hc, rfl⟩ := cond_some h
  obtain ⟨h1, h2⟩ := ok2_le hc
  exact natAdd y.1 y.2 (by omega) (by omega)) hi
theorem mul_ok : CallT Tryz.prog 81 [.str, .str] [.str] inv mulQ := call_of (i := 81) (by kernel_rfl) (g := mulQ) (fun y r h => by
  obtain ⟨hc, rfl⟩ := cond_some h
  obtain ⟨h1, h2⟩ := ok2_le hc
  exact natMul y.1 y.2 (by omega) (by omega)) hi
theorem div_ok : CallT Tryz.prog 98 [.str, .str] [.str, .str, .int .i64] inv divQ := call_of (i := 98) (by kernel_rfl) (g := divQ) (fun y r h => by
  obtain ⟨hc, rfl⟩ := cond_some h
  obtain ⟨h1, h2⟩ := ok2_le hc
  exact divDivMod y.1 y.2 h1 h2) hi
theorem rtrim_ok : CallT Tryz.prog 82 [.str] [.str] inv trimQ := call_of (i := 82) (by kernel_rfl) (g := trimQ) (fun y r h => by
  obtain ⟨hc, rfl⟩ := cond_some h
  have := ok1_le hc
  exact (refTrim y (by omega)).trans (congrArg some (trimB y).symm)) hi
theorem rof_ok : CallT Tryz.prog 87 [.int .u64] [.str] inv ofQ := call_of (i := 87) (by kernel_rfl) (g := ofQ) (fun y r h => by
  obtain ⟨hc, rfl⟩ := cond_some h
  simp only [Bool.and_eq_true, decide_eq_true_eq] at hc
  obtain ⟨n, rfl⟩ := Int.eq_ofNat_of_zero_le hc.1
  exact refOf n (by omega)) hi
theorem rmul_ok : CallT Tryz.prog 67 [.str, .str] [.str] inv mulQ := call_of (i := 67) (by kernel_rfl) (g := mulQ) (fun y r h => by
  obtain ⟨hc, rfl⟩ := cond_some h
  obtain ⟨h1, h2⟩ := ok2_le hc
  exact refMul y.1 y.2 (by omega) (by omega)) hi
theorem rdiv_ok : CallT Tryz.prog 105 [.str, .str] [.str, .str, .int .i64] inv divQ := call_of (i := 105) (by kernel_rfl) (g := divQ) (fun y r h => by
  obtain ⟨hc, rfl⟩ := cond_some h
  obtain ⟨h1, h2⟩ := ok2_le hc
  exact refDivMod y.1 y.2 h1 h2) hi
end Go.Proofs.YtodfaihlddiokaaGreatDoor.Q

/- Greatest common divisors: the program's, the reference's. -/
set_option linter.unusedVariables false
set_option linter.unusedSimpArgs false
namespace Go.Proofs.YtodfaihlddiokaaGreatDoor.P
open Go Go.Proofs.YtodfaihlddiokaaGreatDoor.K Go.Proofs.YtodfaihlddiokaaGreatDoor.C
theorem pow_256 (k : Nat) : 256 ^ k = 2 ^ (8 * k) := by rw [show (256 : Nat) = 2 ^ 8 by decide, ← Nat.pow_mul]
theorem gcd_step (a b : Nat) : Nat.gcd a b = Nat.gcd b (a % b) := by rw [Nat.gcd_comm a b, Nat.gcd_rec, Nat.gcd_comm]
theorem divGcd1 : ∀ (n a b : Nat), b ≤ n → (nat a).length ≤ 1000000000 → (nat b).length ≤ 1000000000 → divide_Gcd_1 (nat a) (nat b) = some (nat (Nat.gcd a b))
  | n, a, b, h, ha, hb => by
    by_cases h0 : b = 0
    · subst h0
      rw [divide_Gcd_1_eq, nat_zero, cF (by rfl), Nat.gcd_zero_right]
    · match n with
      | 0 => omega
      | n + 1 =>
        have hm := Nat.mod_lt a (show 0 < b by omega)
        rw [divide_Gcd_1_eq, cT (by rw [decide_eq_false (fun e => h0 (nat_eq_nil.1 e))]; rfl), divDivMod _ _ ha hb, Option.bind_some, val_nat, val_nat, divmod, if_neg h0]
        simp only
        rw [cF (by rfl), divGcd1 n b (a % b) (by omega) hb (Nat.le_trans (len_mono (Nat.le_of_lt hm)) hb), ← gcd_step]
theorem divGcd (a b : List UInt8) (ha : a.length ≤ 1000000000) (hb : b.length ≤ 1000000000) : divide_Gcd a b = some (nat (Nat.gcd (val a) (val b))) := by
  have la := nat_val_length a
  have lb := nat_val_length b
  rw [divide_Gcd_eq, natTrim, Option.bind_some, natTrim, Option.bind_some, divGcd1 _ _ _ (Nat.le_refl _) (by omega) (by omega)]
theorem refMod (a b : Nat) (ha : (nat a).length ≤ 1000000000) (hb : (nat b).length ≤ 1000000000) (h : b ≠ 0) : abacistref02_Mod (nat a) (nat b) = some (nat (a % b)) := by
  rw [abacistref02_Mod_eq, refDivMod _ _ ha hb, val_nat, val_nat, divmod, if_neg h]; rfl
theorem refGcd0 (s : List UInt8) (i : Int) : abacistref02_Gcd_1 s [] i = some s := by
  rw [abacistref02_Gcd_1_eq]
  have e : (!decide (([] : List UInt8) = [])) = false := rfl
  rw [e]
  cases decide (i < 20000)
  · rw [cond_false, abacistref02_Gcd_2_eq, cond_false]
  · rw [cond_true, abacistref02_Gcd_2_eq, cond_false]
theorem refGcdS (a b i : Nat) (ha : (nat a).length ≤ 1000000000) (hb : (nat b).length ≤ 1000000000) (h : b ≠ 0) (hi : i < 20000) : abacistref02_Gcd_1 (nat a) (nat b) (i : Int) = abacistref02_Gcd_1 (nat b) (nat (a % b)) ((i + 1 : Nat) : Int) := by
  rw [abacistref02_Gcd_1_eq, cT (decide_eq_true (by omega)), decide_eq_false (fun e => h (nat_eq_nil.1 e)), abacistref02_Gcd_2_eq, cT (by rfl), refMod a b ha hb h, Option.bind_some, wS (by omega)]
theorem refGcd1 : ∀ (k a b i : Nat), b < 2 ^ k → i + 2 * k ≤ 19999 → (nat a).length ≤ 1000000000 → (nat b).length ≤ 1000000000 → abacistref02_Gcd_1 (nat a) (nat b) (i : Int) = some (nat (Nat.gcd a b))
  | k, a, b, i, hb, hi, la, lb => by
    by_cases h0 : b = 0
    · subst h0; rw [nat_zero, refGcd0, Nat.gcd_zero_right]
    · match k with
      | 0 => simp at hb; omega
      | k + 1 =>
        have hm := Nat.mod_lt a (show 0 < b by omega)
        have lm := Nat.le_trans (len_mono (Nat.le_of_lt hm)) lb
        rw [refGcdS a b i la lb h0 (by omega), gcd_step]
        by_cases h1 : a % b = 0
        · rw [h1, nat_zero, refGcd0, Nat.gcd_zero_right]
        · have hm2 := Nat.mod_lt b (show 0 < a % b by omega)
          have hd := Nat.div_add_mod b (a % b)
          have hp : 0 < b / (a % b) := Nat.div_pos (Nat.le_of_lt hm) (by omega)
          have hq : a % b * 1 ≤ a % b * (b / (a % b)) := Nat.mul_le_mul_left _ hp
          rw [refGcdS b (a % b) (i + 1) lb lm h1 (by omega), gcd_step]
          exact refGcd1 k (a % b) (b % (a % b)) (i + 1 + 1) (by rw [Nat.pow_succ] at hb; omega) (by omega) lm (Nat.le_trans (len_mono (Nat.le_of_lt hm2)) lm)
theorem refGcd (a b : List UInt8) (ha : a.length ≤ 1000) (hb : b.length ≤ 1000) : abacistref02_Gcd a b = some (nat (Nat.gcd (val a) (val b))) := by
  have la := nat_val_length a
  have lb := nat_val_length b
  have hv := val_lt b
  rw [pow_256] at hv
  have := refGcd1 (8 * b.length) (val a) (val b) 0 hv (by omega) (by omega) (by omega)
  rw [abacistref02_Gcd_eq, refTrim _ (by omega), Option.bind_some, refTrim _ (by omega), Option.bind_some]
  exact this
end Go.Proofs.YtodfaihlddiokaaGreatDoor.P

/- Powers: the program's, the reference's. -/
set_option linter.unusedVariables false
set_option linter.unusedSimpArgs false
namespace Go.Proofs.YtodfaihlddiokaaGreatDoor.P
open Go Go.Proofs.YtodfaihlddiokaaGreatDoor.K Go.Proofs.YtodfaihlddiokaaGreatDoor.C
def powV (A n : Nat) : List UInt8 × Int := if (nat (A ^ n)).length > 1024 then ([], 9) else (nat (A ^ n), 0)
def powR (A : Nat) (n : Int) : List UInt8 × Int := if n < 0 then ([], 2) else if n = 0 then ([1], 0) else if A = 0 ∨ A = 1 then (nat A, 0) else powV A n.toNat
theorem nat_one : nat 1 = [1] := rfl
theorem neg_or (n : Int) : n < 0 ∨ ∃ k : Nat, n = (k : Int) := by
  rcases Int.lt_or_le n 0 with h | h
  · exact .inl h
  · exact .inr ⟨n.toNat, by omega⟩
theorem powV_big {A n m : Nat} (hA : 0 < A) (h : m ≤ n) (hl : (nat (A ^ m)).length > 1024) : powV A n = ([], 9) := by
  have := len_mono (Nat.pow_le_pow_right hA h)
  rw [powV, if_pos (by omega)]
theorem bit_at (n j : Nat) (hn : n ≤ 9000) (hj : j < 63) : bitop .and .i64 ((n : Int).fdiv (2 ^ min (j : Int).toNat IntKind.i64.bits)) 1 = ((n / 2 ^ j % 2 : Nat) : Int) := by
  have hp : (2 : Int) ^ min (j : Int).toNat IntKind.i64.bits = ((2 ^ j : Nat) : Int) := by
    rw [Int.toNat_natCast, show IntKind.i64.bits = 64 from rfl, Nat.min_eq_left (by omega)]; simp
  have hq : n / 2 ^ j ≤ n := Nat.div_le_self _ _
  have hpos : 0 < 2 ^ j := Nat.two_pow_pos j
  rw [hp, fd (by omega), ← Int.natCast_ediv]
  generalize n / 2 ^ j = q at hq
  have := bits_mask .i64 63 (by decide) wraps_i64 1 (by decide) (q : Int) (by omega) (by omega)
  exact this.trans (by omega)
theorem half_at (n j : Nat) : n / 2 ^ j = 2 * (n / 2 ^ (j + 1)) + n / 2 ^ j % 2 := by
  rw [Nat.pow_succ, ← Nat.div_div_eq_div_mul]
  omega
theorem divPow2 (A n : Nat) (hA : 0 < A) (hn : n ≤ 9000) (lA : (nat A).length ≤ 1024) : ∀ (j : Nat), j ≤ 60 → (nat (A ^ (n / 2 ^ j))).length ≤ 1024 → divide_Pow_2 (nat A) (n : Int) ((j : Int) - 1) (nat (A ^ (n / 2 ^ j))) = some (powV A n)
  | 0, hj, hl => by
    rw [divide_Pow_2_eq, cF (decide_eq_false (by omega)), powV]
    simp only [Nat.pow_zero, Nat.div_one] at hl ⊢
    rw [if_neg (by omega)]
  | j + 1, hj, hl => by
    have hh := half_at n j
    have hle : n / 2 ^ j ≤ n := Nat.div_le_self _ _
    have sq : A ^ (n / 2 ^ (j + 1)) * A ^ (n / 2 ^ (j + 1)) = A ^ (2 * (n / 2 ^ (j + 1))) := by rw [← Nat.pow_add]; congr 1; omega
    have over : ∀ (p : List UInt8), divide_Pow_4 (nat A) (n : Int) (j : Int) true p = some ([], 9) := fun p => by rw [divide_Pow_4_eq, cond_true]
    have next : ∀ (m : Nat), m = n / 2 ^ j → (nat (A ^ m)).length ≤ 1024 → divide_Pow_4 (nat A) (n : Int) (j : Int) false (nat (A ^ m)) = some (powV A n) := fun m hm hlm => by
      subst hm
      rw [divide_Pow_4_eq, cond_false, wrap64 (by omega) (by omega)]
      exact divPow2 A n hA hn lA j (by omega) hlm
    rw [divide_Pow_2_eq, show (((j + 1 : Nat) : Int) - 1) = (j : Int) by omega, cT (decide_eq_true (by omega)), divide_Pow_3_eq, natMul _ _ (by omega) (by omega), Option.bind_some, val_nat, sq, bit_at n j hn (by omega)]
    by_cases hg : (nat (A ^ (2 * (n / 2 ^ (j + 1))))).length ≤ 1024
    · rw [cF (by rw [decide_eq_true (by omega)]; rfl), cT (decide_eq_true (by omega))]
      have hb := Nat.mod_lt (n / 2 ^ j) (show 0 < 2 by decide)
      by_cases hbit : n / 2 ^ j % 2 = 1
      · rw [hbit, cT (by rfl), divide_Pow_5_eq, natMul _ _ (by omega) (by omega), Option.bind_some, cond_true, cond_false, val_nat, val_nat, ← Nat.pow_succ, show (2 * (n / 2 ^ (j + 1))).succ = n / 2 ^ j by omega]
        by_cases hg2 : (nat (A ^ (n / 2 ^ j))).length ≤ 1024
        · rw [decide_eq_true (by omega)]
          exact next _ rfl hg2
        · rw [decide_eq_false (by omega), powV_big hA hle (by omega)]
          exact over _
      · have hbit : n / 2 ^ j % 2 = 0 := by omega
        rw [hbit, cF (by rfl)]
        exact next _ (by omega) hg
    · rw [cT (by rw [decide_eq_false (by omega)]; rfl), over, powV_big hA (by omega) (show (nat (A ^ (2 * (n / 2 ^ (j + 1))))).length > 1024 by omega)]
theorem powV_huge (A n : Nat) (hA : 2 ≤ A) (hn : 8192 < n) : powV A n = ([], 9) := by
  rw [powV, if_pos]
  rcases Nat.lt_or_ge 1024 (nat (A ^ n)).length with h | h
  · exact h
  · exfalso
    have hv := val_lt (nat (A ^ n))
    rw [val_nat, pow_256] at hv
    have h1 : 2 ^ n ≤ A ^ n := Nat.pow_le_pow_left hA n
    have h2 : 2 ^ (8 * (nat (A ^ n)).length) ≤ 2 ^ n := Nat.pow_le_pow_right (by decide) (by omega)
    omega
theorem divPow (a : List UInt8) (ha : a.length ≤ 1024) (n : Int) (hn : n ≤ 9000) : divide_Pow a n = some (powR (val a) n) := by
  have la := nat_val_length a
  have o1 : nat_Of 1 = some [1] := natOf 1 (by decide)
  rw [divide_Pow_eq, natTrim, Option.bind_some, powR]
  rcases neg_or n with h | ⟨k, rfl⟩
  · rw [cT (decide_eq_true h), if_pos h]
  · rw [cF (decide_eq_false (by omega)), if_neg (by omega)]
    by_cases h0 : k = 0
    · subst h0
      rw [cT (by rfl), o1, if_pos (show ((0 : Nat) : Int) = 0 from rfl)]; rfl
    · rw [cF (decide_eq_false (by omega)), if_neg (by omega)]
      by_cases hA : val a = 0
      · rw [cT (decide_eq_true (nat_eq_nil.2 hA)), divide_Pow_1_eq, cond_true, if_pos (.inl hA)]
      · rw [cF (decide_eq_false (fun e => hA (nat_eq_nil.1 e))), o1, Option.bind_some, divide_Pow_1_eq]
        by_cases h1 : val a = 1
        · rw [cT (decide_eq_true (by rw [h1]; rfl)), if_pos (.inr h1)]
        · rw [cF (decide_eq_false (fun e => h1 (by rw [← nat_one] at e; exact nat_inj.1 e))), if_neg (by omega), Int.toNat_natCast]
          by_cases h2 : (k : Int) > 8192
          · rw [cT (decide_eq_true h2), powV_huge _ _ (by omega) (by omega)]
          · have hb := (blen_bounds k).1
            have hl : math_bits_Len (IntKind.u64.wrap (k : Int)) = some ((blen k : Nat) : Int) := by
              refine (top_call ..).trans ?_
              show len64F _ = _
              unfold len64F
              rw [wrapU64 (by omega) (by omega), cT (by simp; omega), Int.toNat_natCast, bitLen_blen k (by omega)]
            have hb32 := blen_le k (by omega)
            have hz : k / 2 ^ blen k = 0 := Nat.div_eq_of_lt hb
            have := divPow2 (val a) k (by omega) (by omega) (by omega) (blen k) (by omega) (by rw [hz, Nat.pow_zero, nat_one]; simp)
            rw [hz, Nat.pow_zero, nat_one] at this
            rw [cF (decide_eq_false h2), o1, Option.bind_some, hl, Option.bind_some, wrap64 (by omega) (by omega)]
            exact this
theorem refBits1 : ∀ (f c n : Nat), c ≤ f → n + c ≤ 1000000000000 → abacistref01_Bits_1 (n : Int) (c : Int) = some ((n + blen c : Nat) : Int)
  | f, c, n, hf, hn => by
    by_cases h0 : c = 0
    · subst h0; rw [abacistref01_Bits_1_eq, cF (by rfl), blen_zero]; rfl
    · match f with
      | 0 => omega
      | f + 1 =>
        have e : ((c : Int).fdiv (2 ^ min 1 IntKind.u8.bits)) = ((c / 2 : Nat) : Int) := by
          rw [show (2 : Int) ^ min 1 IntKind.u8.bits = 2 from rfl, fd (by omega)]; omega
        rw [abacistref01_Bits_1_eq, cT (decide_eq_true (by omega)), cT (by rfl), e, wS (by omega), refBits1 f (c / 2) (n + 1) (by omega) (by omega), blen_pos h0]
        congr 2; omega
theorem refBits (a : List UInt8) (h : a.length ≤ 1000000000) : abacistref01_Bits a = some ((blen (val a) : Nat) : Int) := by
  have hl := nat_val_length a
  rw [abacistref01_Bits_eq, refTrim a (by omega), Option.bind_some]
  cases hs : nat (val a) with
  | nil => rw [cT (by rfl), nat_eq_nil.1 hs, blen_zero]; rfl
  | cons b l =>
    rw [hs] at hl
    simp only [List.length_cons] at hl
    have hb : b.toNat ≠ 0 := fun e => nat_head _ _ _ hs (UInt8.toNat_inj.1 e)
    have hv : val a = b.toNat * 256 ^ l.length + val l := by rw [← val_nat (val a), hs, val_cons]
    have hlt := val_lt l
    have hd : val a / 2 ^ (8 * l.length) = b.toNat := by
      rw [← pow_256, hv, Nat.add_comm, Nat.add_mul_div_right _ _ (Nat.pow_pos (by decide)), Nat.div_eq_of_lt hlt, Nat.zero_add]
    have hge : 2 ^ (8 * l.length) ≤ val a := by
      rw [← pow_256, hv]
      exact Nat.le_trans (Nat.le_mul_of_pos_left _ (by omega)) (Nat.le_add_right _ _)
    have hsh := blen_shift _ _ hge
    rw [hd] at hsh
    have h256 := b.toNat_lt
    have hr := refBits1 b.toNat b.toNat (8 * l.length) (Nat.le_refl _) (by omega)
    rw [cF (by rfl), cT (by simp), List.getD_cons_zero, List.length_cons, wrap64 (n := ((l.length + 1 : Nat) : Int) - 1) (by omega) (by omega), wrap64 (by omega) (by omega), show 8 * (((l.length + 1 : Nat) : Int) - 1) = ((8 * l.length : Nat) : Int) by omega, hr, hsh]
    congr 2; omega
end Go.Proofs.YtodfaihlddiokaaGreatDoor.P

/- More contracts of naturals, told by numbers: order, divisors, powers, bits. -/
set_option linter.unusedVariables false
set_option linter.unusedSimpArgs false
namespace Go.Proofs.YtodfaihlddiokaaGreatDoor.Q
open Go Go.Proofs.YtodfaihlddiokaaGreatDoor.K Go.Proofs.YtodfaihlddiokaaGreatDoor.C Go.Proofs.YtodfaihlddiokaaGreatDoor.P
def ok3 (s : List UInt8) : Bool := Nat.ble s.length 1000
def cmpQ (y : List UInt8 × List UInt8) : Option Int := cond (ok1 y.1 && ok1 y.2) (some (sgnv (val y.1) (val y.2))) none
def gcdQ (y : List UInt8 × List UInt8) : Option (List UInt8) := cond (ok3 y.1 && ok3 y.2) (some (nat (Nat.gcd (val y.1) (val y.2)))) none
def powQ (y : List UInt8 × Int) : Option (List UInt8 × Int) := cond (ok3 y.1 && decide (y.2 ≤ 9000)) (some (powR (val y.1) y.2)) none
def bitsQ (s : List UInt8) : Option Int := cond (ok1 s) (some ((blen (val s) : Nat) : Int)) none
theorem le9 (n : Int) (h : decide (n ≤ 9000) = true) : n ≤ 9000 := of_decide_eq_true h
theorem ok3_le {s : List UInt8} (h : ok3 s = true) : s.length ≤ 1000 := Nat.le_of_ble_eq_true h
theorem ok33_le {a b : List UInt8} (h : (ok3 a && ok3 b) = true) : a.length ≤ 1000 ∧ b.length ≤ 1000 := by
  rw [Bool.and_eq_true] at h
  exact ⟨ok3_le h.1, ok3_le h.2⟩
variable {inv : World → Prop} (hi : ∀ w, inv w → MaxLen w)
include hi
theorem cmp_ok : CallT Tryz.prog 56 [.str, .str] [.int .i64] inv cmpQ := call_of (i := 56) (by kernel_rfl) (g := cmpQ) (fun y r h => by
  obtain ⟨hc, rfl⟩ := cond_some h
  obtain ⟨h1, h2⟩ := ok2_le hc
  exact natCmp y.1 y.2 (by omega) (by omega)) hi
theorem rcmp_ok : CallT Tryz.prog 65 [.str, .str] [.int .i64] inv cmpQ := call_of (i := 65) (by kernel_rfl) (g := cmpQ) (fun y r h => by
  obtain ⟨hc, rfl⟩ := cond_some h
  obtain ⟨h1, h2⟩ := ok2_le hc
  exact refCmp y.1 y.2 (by omega) (by omega)) hi
theorem gcd_ok : CallT Tryz.prog 76 [.str, .str] [.str] inv gcdQ := call_of (i := 76) (by kernel_rfl) (g := gcdQ) (fun y r h => by
  obtain ⟨hc, rfl⟩ := cond_some h
  obtain ⟨h1, h2⟩ := ok33_le hc
  exact divGcd y.1 y.2 (by omega) (by omega)) hi
theorem rgcd_ok : CallT Tryz.prog 83 [.str, .str] [.str] inv gcdQ := call_of (i := 83) (by kernel_rfl) (g := gcdQ) (fun y r h => by
  obtain ⟨hc, rfl⟩ := cond_some h
  obtain ⟨h1, h2⟩ := ok33_le hc
  exact refGcd y.1 y.2 h1 h2) hi
theorem pow_ok : CallT Tryz.prog 111 [.str, .int .i64] [.str, .int .i64] inv powQ := call_of (i := 111) (by kernel_rfl) (g := powQ) (fun y r h => by
  obtain ⟨hc, rfl⟩ := cond_some h
  rw [Bool.and_eq_true] at hc
  have h1 := ok3_le hc.1
  exact divPow y.1 (by omega) y.2 (le9 _ hc.2)) hi
theorem rbits_ok : CallT Tryz.prog 86 [.str] [.int .i64] inv bitsQ := call_of (i := 86) (by kernel_rfl) (g := bitsQ) (fun y r h => by
  obtain ⟨hc, rfl⟩ := cond_some h
  exact refBits y (ok1_le hc)) hi
end Go.Proofs.YtodfaihlddiokaaGreatDoor.Q

/- The machine at this seat: tables, names. -/
set_option linter.unusedVariables false
set_option maxRecDepth 100000
namespace Go.Proofs.YtodfaihlddiokaaGreatDoor.K
open Go
def look {α : Type} : List (Nat × α) → Nat → Option α
  | [], _ => none
  | (u, v) :: l, t => match Nat.beq u t with
    | true => some v
    | false => look l t
def peq : Path → Path → Bool
  | [], [] => true
  | a :: p, b :: q => Nat.beq a b && peq p q
  | _, _ => false
def lookP : List (Nat × Path × Ann) → Nat → Path → Option Ann
  | [], _, _ => none
  | (g, u, v) :: l, f, t => match Nat.beq g f && peq u t with
    | true => some v
    | false => lookP l f t
def Inv (w : World) : Prop := MaxLen w
theorem inv_max : ∀ w, Inv w → MaxLen w := fun _ h => h
theorem inv_keeps : ∀ w w', Inv w → RowKit.Below w.heap.size w w' → Inv w' := maxLen_keeps
noncomputable def ti2 : TI := { sh := (.int .i64), size := 1, bytes := 8, zero := [(.int .i64 0)], ty := some (.int .i64), fl := [], eq := false }
noncomputable def ti3 : TI := { sh := (.int .i64), size := 1, bytes := 8, zero := [(.int .i64 0)], ty := some (.int .i64), fl := [], eq := false }
noncomputable def ti4 : TI := { sh := .bool, size := 1, bytes := 1, zero := [(.bool false)], ty := some .bool, fl := [], eq := false }
noncomputable def ti5 : TI := { sh := (.int .u8), size := 1, bytes := 1, zero := [(.int .u8 0)], ty := some (.int .u8), fl := [], eq := false }
noncomputable def ti9 : TI := { sh := .str, size := 1, bytes := 16, zero := [(.str [])], ty := some .str, fl := [], eq := false }
noncomputable def ti23 : TI := { sh := (.st [(0, 4), (1, 9), (2, 9)]), size := 3, bytes := 40, zero := [(.bool false), (.str []), (.str [])], ty := some (.pair .bool (.pair .str .str)), fl := [(0, 1, false), (1, 1, false), (2, 1, false)], eq := true }
noncomputable def ti25 : TI := { sh := (.st [(0, 3), (1, 23), (4, 9), (5, 4), (6, 3)]), size := 7, bytes := 80, zero := [(.int .i64 0), (.bool false), (.str []), (.str []), (.str []), (.bool false), (.int .i64 0)], ty := some (.pair (.int .i64) (.pair (.pair .bool (.pair .str .str)) (.pair .str (.pair .bool (.int .i64))))), fl := [(0, 1, false), (1, 3, true), (4, 1, false), (5, 1, false), (6, 1, false)], eq := true }
noncomputable def ti30 : TI := { sh := (.sl 25), size := 1, bytes := 24, zero := [.nilsl], ty := some (.sl (.pair (.int .i64) (.pair (.pair .bool (.pair .str .str)) (.pair .str (.pair .bool (.int .i64)))))), fl := [], eq := false }
noncomputable def ti35 : TI := { sh := (.st [(0, 3), (1, 23), (4, 9), (5, 4), (6, 3)]), size := 7, bytes := 80, zero := [(.int .i64 0), (.bool false), (.str []), (.str []), (.str []), (.bool false), (.int .i64 0)], ty := some (.pair (.int .i64) (.pair (.pair .bool (.pair .str .str)) (.pair .str (.pair .bool (.int .i64))))), fl := [(0, 1, false), (1, 3, true), (4, 1, false), (5, 1, false), (6, 1, false)], eq := false }
noncomputable def ti59 : TI := { sh := (.st [(0, 4), (1, 9)]), size := 2, bytes := 24, zero := [(.bool false), (.str [])], ty := some (.pair .bool .str), fl := [(0, 1, false), (1, 1, false)], eq := false }
noncomputable def ti63 : TI := { sh := (.sl 3), size := 1, bytes := 24, zero := [.nilsl], ty := some (.sl (.int .i64)), fl := [], eq := false }
noncomputable def ti89 : TI := { sh := (.int .u64), size := 1, bytes := 8, zero := [(.int .u64 0)], ty := some (.int .u64), fl := [], eq := false }
noncomputable def ti90 : TI := { sh := (.sl 5), size := 1, bytes := 24, zero := [.nilsl], ty := some (.sl (.int .u8)), fl := [], eq := false }
noncomputable def ti104 : TI := { sh := (.arr 8 9), size := 8, bytes := 128, zero := [(.str []), (.str []), (.str []), (.str []), (.str []), (.str []), (.str []), (.str [])], ty := none, fl := [], eq := false }
noncomputable def tis : List (Nat × TI) := [(2, ti2), (3, ti3), (4, ti4), (5, ti5), (9, ti9), (23, ti23), (25, ti25), (30, ti30), (35, ti35), (59, ti59), (63, ti63), (89, ti89), (90, ti90), (104, ti104)]
noncomputable def fns : List (Nat × Func) := [(3, Tryz.f3), (4, Tryz.f4), (5, Tryz.f5), (6, Tryz.f6), (7, Tryz.f7), (8, Tryz.f8), (10, Tryz.f10), (11, Tryz.f11), (12, Tryz.f12), (13, Tryz.f13), (14, Tryz.f14), (15, Tryz.f15), (16, Tryz.f16), (17, Tryz.f17), (18, Tryz.f18), (19, Tryz.f19), (20, Tryz.f20), (21, Tryz.f21), (22, Tryz.f22), (23, Tryz.f23), (24, Tryz.f24), (25, Tryz.f25), (26, Tryz.f26), (27, Tryz.f27), (28, Tryz.f28), (29, Tryz.f29), (30, Tryz.f30), (31, Tryz.f31), (32, Tryz.f32), (33, Tryz.f33), (34, Tryz.f34), (35, Tryz.f35), (36, Tryz.f36), (37, Tryz.f37), (38, Tryz.f38), (39, Tryz.f39), (40, Tryz.f40), (41, Tryz.f41), (42, Tryz.f42), (43, Tryz.f43), (44, Tryz.f44), (45, Tryz.f45), (46, Tryz.f46), (47, Tryz.f47), (48, Tryz.f48), (49, Tryz.f49), (50, Tryz.f50), (51, Tryz.f51), (52, Tryz.f52), (53, Tryz.f53), (54, Tryz.f54), (55, Tryz.f55), (56, Tryz.f56), (57, Tryz.f57), (58, Tryz.f58), (59, Tryz.f59), (60, Tryz.f60), (61, Tryz.f61), (62, Tryz.f62), (63, Tryz.f63), (64, Tryz.f64), (65, Tryz.f65), (66, Tryz.f66), (67, Tryz.f67), (68, Tryz.f68), (69, Tryz.f69), (70, Tryz.f70), (71, Tryz.f71), (72, Tryz.f72), (73, Tryz.f73), (74, Tryz.f74), (75, Tryz.f75), (76, Tryz.f76), (77, Tryz.f77), (78, Tryz.f78), (81, Tryz.f81), (82, Tryz.f82), (83, Tryz.f83), (84, Tryz.f84), (85, Tryz.f85), (86, Tryz.f86), (87, Tryz.f87), (90, Tryz.f90), (92, Tryz.f92), (93, Tryz.f93), (94, Tryz.f94), (95, Tryz.f95), (97, Tryz.f97), (98, Tryz.f98), (105, Tryz.f105), (107, Tryz.f107), (109, Tryz.f109), (110, Tryz.f110), (111, Tryz.f111), (9, Tryz.f9), (96, Tryz.f96)]
def inls : List Nat := [9, 96]
noncomputable def ptsL : List (Nat × List Ty) := [(3, [(.pair (.int .i64) (.pair (.pair .bool (.pair .str .str)) (.pair .str (.pair .bool (.int .i64))))), (.pair (.int .i64) (.pair (.pair .bool (.pair .str .str)) (.pair .str (.pair .bool (.int .i64))))), (.pair (.int .i64) (.pair (.pair .bool (.pair .str .str)) (.pair .str (.pair .bool (.int .i64)))))]), (4, [(.pair (.int .i64) (.pair (.pair .bool (.pair .str .str)) (.pair .str (.pair .bool (.int .i64))))), (.pair (.int .i64) (.pair (.pair .bool (.pair .str .str)) (.pair .str (.pair .bool (.int .i64)))))]), (5, [(.pair (.int .i64) (.pair (.pair .bool (.pair .str .str)) (.pair .str (.pair .bool (.int .i64))))), (.pair (.int .i64) (.pair (.pair .bool (.pair .str .str)) (.pair .str (.pair .bool (.int .i64)))))]), (6, [(.sl (.pair (.int .i64) (.pair (.pair .bool (.pair .str .str)) (.pair .str (.pair .bool (.int .i64))))))]), (7, [(.sl (.pair (.int .i64) (.pair (.pair .bool (.pair .str .str)) (.pair .str (.pair .bool (.int .i64))))))]), (8, []), (10, [(.pair (.int .i64) (.pair (.pair .bool (.pair .str .str)) (.pair .str (.pair .bool (.int .i64)))))]), (11, [(.pair (.int .i64) (.pair (.pair .bool (.pair .str .str)) (.pair .str (.pair .bool (.int .i64))))), (.int .i64)]), (12, [(.int .i64), (.int .i64)]), (13, [(.pair .bool (.pair .str .str)), (.pair .bool (.pair .str .str))]), (14, [(.sl (.int .i64))]), (15, [.str, .str]), (16, [(.int .i64), (.int .i64)]), (17, [.bool]), (18, [(.pair (.int .i64) (.pair (.pair .bool (.pair .str .str)) (.pair .str (.pair .bool (.int .i64)))))]), (19, [(.pair (.int .i64) (.pair (.pair .bool (.pair .str .str)) (.pair .str (.pair .bool (.int .i64))))), (.pair (.int .i64) (.pair (.pair .bool (.pair .str .str)) (.pair .str (.pair .bool (.int .i64)))))]), (20, [(.int .i64), (.int .i64)]), (21, [(.pair .bool (.pair .str .str)), (.pair .bool (.pair .str .str))]), (22, [.str, .str]), (23, [.bool]), (24, [(.pair (.int .i64) (.pair (.pair .bool (.pair .str .str)) (.pair .str (.pair .bool (.int .i64)))))]), (25, [.str]), (26, [(.pair (.int .i64) (.pair (.pair .bool (.pair .str .str)) (.pair .str (.pair .bool (.int .i64)))))]), (27, [(.int .i64)]), (28, [.bool]), (29, [(.pair (.int .i64) (.pair (.pair .bool (.pair .str .str)) (.pair .str (.pair .bool (.int .i64)))))]), (30, [(.pair .bool (.pair .str .str))]), (31, [(.int .i64)]), (32, [.str]), (33, [.bool]), (34, [(.int .i64)]), (35, [(.pair .bool .str), (.pair .bool .str)]), (36, [(.pair .bool (.pair .str .str)), (.pair .bool (.pair .str .str))]), (37, [(.pair .bool (.pair .str .str))]), (38, [.str]), (39, [(.int .i64)]), (40, [(.pair (.int .i64) (.pair (.pair .bool (.pair .str .str)) (.pair .str (.pair .bool (.int .i64)))))]), (41, [(.pair .bool (.pair .str .str))]), (42, [(.int .i64)]), (43, [(.pair .bool .str), (.pair .bool .str)]), (44, [(.pair .bool .str), (.pair .bool .str)]), (45, [(.pair .bool (.pair .str .str))]), (46, [(.pair .bool (.pair .str .str))]), (47, [.str]), (48, [.str]), (49, [(.pair .bool (.pair .str .str))]), (50, [.str]), (51, [(.int .i64)]), (52, [(.pair .bool (.pair .str .str))]), (53, [(.int .i64)]), (54, [.str]), (55, [(.pair .bool .str)]), (56, [.str, .str]), (57, [(.pair .bool (.pair .str .str))]), (58, [(.pair .bool .str), (.pair .bool .str)]), (59, [(.pair .bool (.pair .str .str))]), (60, [(.pair .bool (.pair .str .str))]), (61, [(.pair .bool (.pair .str .str))]), (62, [(.pair .bool .str), (.pair .bool .str)]), (63, [(.int .i64)]), (64, [(.pair .bool .str)]), (65, [.str, .str]), (66, [.bool, .str]), (67, [.str, .str]), (68, [.str, .str]), (69, [.str, .str]), (70, [.str, .str]), (71, [.str]), (72, [(.pair .bool (.pair .str .str))]), (73, [.str]), (74, [(.int .i64)]), (75, [.str]), (76, [.str, .str]), (77, [.bool, .str]), (78, [(.int .u64)]), (81, [.str, .str]), (82, [.str]), (83, [.str, .str]), (84, []), (85, [.str, .str]), (86, [.str]), (87, [(.int .u64)]), (90, [.str, .str]), (92, [.str]), (93, [(.pair .bool .str), (.pair .bool .str)]), (94, [.str]), (95, [(.int .u64), (.int .i64)]), (97, [.str]), (98, [.str, .str]), (105, [.str, .str]), (107, [.str, .str]), (109, [.str]), (110, [.str, .str]), (111, [.str, (.int .i64)])]
noncomputable def rtsL : List (Nat × List Ty) := [(3, [.bool]), (4, [(.int .i64), (.int .i64)]), (5, [(.int .i64), (.int .i64)]), (6, [(.int .i64)]), (7, [(.int .i64)]), (8, [.bool]), (10, [(.int .i64)]), (11, [(.pair (.int .i64) (.pair (.pair .bool (.pair .str .str)) (.pair .str (.pair .bool (.int .i64)))))]), (12, [(.int .i64)]), (13, [(.int .i64)]), (14, [(.int .i64)]), (15, [(.int .i64)]), (16, [(.int .i64)]), (17, [(.int .i64)]), (18, [(.int .i64)]), (19, [(.pair (.int .i64) (.pair (.pair .bool (.pair .str .str)) (.pair .str (.pair .bool (.int .i64)))))]), (20, [(.int .i64)]), (21, [(.int .i64)]), (22, [(.int .i64)]), (23, [(.int .i64)]), (24, [(.pair .bool (.pair .str .str)), (.int .i64)]), (25, [(.pair (.int .i64) (.pair (.pair .bool (.pair .str .str)) (.pair .str (.pair .bool (.int .i64)))))]), (26, [.bool, (.int .i64)]), (27, [(.pair (.int .i64) (.pair (.pair .bool (.pair .str .str)) (.pair .str (.pair .bool (.int .i64)))))]), (28, [(.pair (.int .i64) (.pair (.pair .bool (.pair .str .str)) (.pair .str (.pair .bool (.int .i64)))))]), (29, [.bool]), (30, [(.pair (.int .i64) (.pair (.pair .bool (.pair .str .str)) (.pair .str (.pair .bool (.int .i64)))))]), (31, [(.pair .bool (.pair .str .str))]), (32, [(.pair (.int .i64) (.pair (.pair .bool (.pair .str .str)) (.pair .str (.pair .bool (.int .i64)))))]), (33, [(.pair (.int .i64) (.pair (.pair .bool (.pair .str .str)) (.pair .str (.pair .bool (.int .i64)))))]), (34, [.bool]), (35, [(.int .i64)]), (36, [(.pair .bool .str), (.pair .bool .str)]), (37, [(.pair .bool (.pair .str .str))]), (38, [.bool]), (39, [.bool]), (40, [.bool]), (41, [(.pair (.int .i64) (.pair (.pair .bool (.pair .str .str)) (.pair .str (.pair .bool (.int .i64)))))]), (42, [(.pair .bool (.pair .str .str))]), (43, [(.int .i64)]), (44, [(.pair .bool .str)]), (45, [(.pair .bool .str)]), (46, [(.pair .bool .str)]), (47, [(.pair .bool (.pair .str .str)), (.int .i64)]), (48, [.bool]), (49, [(.int .i64)]), (50, [(.pair (.int .i64) (.pair (.pair .bool (.pair .str .str)) (.pair .str (.pair .bool (.int .i64))))), (.int .i64)]), (51, [(.pair (.int .i64) (.pair (.pair .bool (.pair .str .str)) (.pair .str (.pair .bool (.int .i64)))))]), (52, [.bool]), (53, [(.pair .bool .str)]), (54, [.bool]), (55, [(.pair .bool .str)]), (56, [(.int .i64)]), (57, [(.pair .bool .str)]), (58, [(.pair .bool .str)]), (59, [(.pair .bool .str)]), (60, [.bool]), (61, [(.pair .bool (.pair .str .str))]), (62, [(.pair .bool (.pair .str .str)), (.int .i64)]), (63, [(.pair .bool .str)]), (64, [(.pair .bool .str)]), (65, [(.int .i64)]), (66, [(.pair .bool .str)]), (67, [.str]), (68, [.str, .bool]), (69, [.str, .str, .bool]), (70, [(.pair .bool (.pair .str .str)), (.int .i64)]), (71, [(.pair .bool (.pair .str .str)), (.int .i64)]), (72, [(.pair .bool (.pair .str .str))]), (73, [(.int .i64), .bool]), (74, [.str]), (75, [.bool]), (76, [.str]), (77, [(.pair .bool .str)]), (78, [.str]), (81, [.str]), (82, [.str]), (83, [.str]), (84, [(.pair .bool (.pair .str .str))]), (85, [.str]), (86, [(.int .i64)]), (87, [.str]), (90, [.str, .bool]), (92, [.str, (.int .i64)]), (93, [(.pair .bool (.pair .str .str)), (.int .i64)]), (94, [.bool]), (95, [.str]), (97, [.str]), (98, [.str, .str, (.int .i64)]), (105, [.str, .str, (.int .i64)]), (107, [.bool]), (109, [.bool]), (110, [.str]), (111, [.str, (.int .i64)])]
noncomputable def annL : List (Nat × List (Nat × Path × Ann)) := [
  (3, [(3, [1, 0, 1, 1, 1, 1], { live := [(3, .keep), (4, .keep), (5, .keep), (7, .keep), (8, .keep), (70, .keep)], toks := [(48, [.keep, .keep, .keep, .keep, .keep, .keep, .keep]), (64, [.keep, .keep, .keep, .keep, .keep, .keep, .keep]), (80, [.keep, .keep, .keep, .keep, .keep, .keep, .keep])] }),
    (3, [1, 1, 1, 1, 1, 1, 1, 1], { live := [(7, .keep), (13, .keep), (15, .keep), (17, .keep)], toks := [] })]),
  (4, [(4, [1000004, 0, 0, 1], { live := [(2, .keep), (3, .keep)], toks := [] }),
    (4, [1, 0, 1], { live := [(2, .keep), (3, .keep), (6, .keep)], toks := [(32, [.keep, .keep, .keep, .keep, .keep, .keep, .keep]), (48, [.keep, .keep, .keep, .keep, .keep, .keep, .keep])] })]),
  (6, [(6, [0, 1, 0, 1], { live := [(6, .im (.sl (.pair (.int .i64) (.pair (.pair .bool (.pair .str .str)) (.pair .str (.pair .bool (.int .i64))))))), (7, .keep), (8, .keep)], toks := [] })]),
  (7, [(7, [0, 1, 0, 1], { live := [(0, .im (.sl (.pair (.int .i64) (.pair (.pair .bool (.pair .str .str)) (.pair .str (.pair .bool (.int .i64))))))), (3, .keep)], toks := [] })]),
  (14, [(14, [0, 1, 0, 1, 1], { live := [(3, .keep), (6, .im (.sl (.int .i64))), (7, .keep), (8, .keep)], toks := [] })]),
  (22, [(22, [0, 1, 0, 1], { live := [(0, .keep), (1, .keep), (5, .keep)], toks := [] }),
    (22, [1, 0, 0, 0, 1, 0, 1], { live := [(0, .keep), (1, .keep), (5, .keep), (15, .keep)], toks := [] })]),
  (26, [(26, [1, 1, 0, 0, 1, 1, 1, 0, 1, 0, 1, 1], { live := [(1, .keep), (34, .keep)], toks := [(16, [.keep, .keep, .keep, .keep, .keep, .keep, .keep])] })]),
  (27, [(27, [1, 0, 1], { live := [(0, .keep), (2, .keep), (8, .keep)], toks := [(32, [.keep, .keep, .keep, .keep, .keep, .keep, .keep])] }),
    (27, [1, 1], { live := [(0, .keep), (2, .keep)], toks := [(32, [.keep, .keep, .keep, .keep, .keep, .keep, .keep])] })]),
  (30, [(30, [1, 1], { live := [(1, .keep), (2, .keep)], toks := [(16, [.keep, .keep, .keep]), (32, [.keep, .keep, .keep, .keep, .keep, .keep, .keep])] })]),
  (35, [(35, [1, 0, 0, 1, 1, 1], { live := [(2, .keep), (3, .keep), (5, .keep), (15, .keep)], toks := [(32, [.keep, .keep]), (48, [.keep, .keep])] })]),
  (47, [(47, [1, 1, 1, 1, 1, 1, 1], { live := [(2, .keep), (8, .keep), (9, .keep)], toks := [(32, [.keep, .keep, .keep]), (128, [.keep, .keep, .keep])] }),
    (47, [1, 0, 1, 1, 1, 1, 1, 1], { live := [(2, .keep), (8, .keep), (9, .keep), (37, .keep)], toks := [(32, [.keep, .keep, .keep]), (128, [.keep, .keep, .keep])] }),
    (47, [1, 1, 1, 1, 1, 1], { live := [(2, .keep), (4, .keep), (8, .keep), (9, .keep)], toks := [(32, [.keep, .keep, .keep]), (128, [.keep, .keep, .keep])] })]),
  (48, [(48, [0, 1, 0, 1, 1], { live := [(0, .keep), (3, .keep)], toks := [] }),
    (48, [1, 0, 0, 1, 0, 0, 1, 0, 1, 1], { live := [(0, .keep), (3, .keep), (22, .keep)], toks := [] })]),
  (50, [(50, [1, 1, 1, 0, 1, 0, 1, 1], { live := [(0, .keep), (2, .keep), (16, .keep)], toks := [(32, [.keep, .keep, .keep, .keep, .keep, .keep, .keep])] })]),
  (51, [(51, [1, 1], { live := [(0, .keep), (2, .keep)], toks := [(32, [.keep, .keep, .keep, .keep, .keep, .keep, .keep])] })]),
  (52, [(52, [1, 0, 0, 1], { live := [(1, .keep), (3, .keep)], toks := [(16, [.keep, .keep, .keep])] })]),
  (54, [(54, [0, 1, 0, 1], { live := [(0, .keep), (6, .im (.sl (.int .u8))), (7, .keep), (8, .keep)], toks := [] }),
    (54, [1, 1, 0, 0, 1, 1, 0, 0, 1, 0, 1], { live := [(0, .keep), (6, .im (.sl (.int .u8))), (7, .keep), (8, .keep), (17, .keep)], toks := [] })]),
  (60, [(60, [1, 0, 1], { live := [(1, .keep), (33, .keep)], toks := [(16, [.keep, .keep, .keep])] })]),
  (62, [(62, [1, 0, 1, 1, 1, 1, 1, 1, 1], { live := [(4, .keep), (6, .keep), (7, .keep), (9, .keep), (10, .keep), (45, .keep)], toks := [(64, [.keep, .keep, .keep]), (96, [.keep, .keep]), (112, [.keep, .keep])] })]),
  (70, [(70, [1, 0, 0, 0, 0, 0, 0, 0, 0, 0, 0, 1, 1, 1], { live := [(4, .keep), (6, .keep), (7, .keep), (8, .keep), (9, .keep), (20, .keep)], toks := [(64, [.keep, .keep, .keep])] }),
    (70, [1, 0, 0, 1, 1, 1], { live := [(4, .keep), (6, .keep), (7, .keep), (8, .keep)], toks := [(64, [.keep, .keep, .keep])] })]),
  (71, [(71, [1, 0, 0, 1, 1], { live := [(0, .keep), (2, .keep), (4, .keep), (5, .keep), (15, .keep)], toks := [(32, [.keep, .keep, .keep])] })]),
  (72, [(72, [1, 1, 1], { live := [(1, .keep), (2, .keep)], toks := [(16, [.keep, .keep, .keep]), (32, [.keep, .keep, .keep])] })]),
  (73, [(73, [1000000, 0, 0, 1], { live := [(0, .keep)], toks := [] }),
    (73, [0, 1, 0, 1], { live := [(0, .keep), (6, .keep), (7, .keep)], toks := [] }),
    (73, [1, 1, 0, 0, 1, 1, 0, 0, 1, 0, 1], { live := [(0, .keep), (4, .keep), (6, .keep), (7, .keep), (17, .keep)], toks := [] })]),
  (74, [(74, [1000000, 0, 1], { live := [(0, .keep)], toks := [] }),
    (74, [1, 0, 1, 1], { live := [(0, .keep), (3, .keep), (10, .keep)], toks := [(48, [.keep, .keep, .keep, .keep, .keep, .keep, .keep, .keep])] })]),
  (92, [(92, [1, 0, 0, 1], { live := [(0, .keep), (10, .keep)], toks := [] }),
    (92, [0, 0, 1, 1, 1], { live := [(0, .keep), (4, .keep)], toks := [] }),
    (92, [0, 1, 0, 1, 1, 0, 1, 0, 0, 0, 1, 1, 1], { live := [(0, .keep), (4, .keep), (5, .keep), (6, .keep), (7, .keep), (30, .im (.sl (.int .u8))), (31, .keep), (32, .keep)], toks := [] })]),
  (93, [(93, [1, 0, 1, 1, 1, 1], { live := [(2, .keep), (3, .keep), (4, .keep), (6, .keep), (7, .keep), (44, .keep)], toks := [(32, [.keep, .keep]), (48, [.keep, .keep]), (64, [.keep, .keep, .keep])] }),
    (93, [1, 1, 1, 1], { live := [(2, .keep), (3, .keep), (4, .keep), (6, .keep), (7, .keep)], toks := [(32, [.keep, .keep]), (48, [.keep, .keep]), (64, [.keep, .keep, .keep])] })]),
  (94, [(94, [0, 1, 0, 1], { live := [(0, .keep), (6, .im (.sl (.int .u8))), (7, .keep), (8, .keep)], toks := [] }),
    (94, [1, 1, 0, 0, 1, 1, 0, 0, 1, 0, 1], { live := [(0, .keep), (6, .im (.sl (.int .u8))), (7, .keep), (8, .keep), (17, .keep)], toks := [] })]),
  (109, [(109, [0, 1, 0, 1], { live := [(6, .im (.sl (.int .u8))), (7, .keep), (8, .keep)], toks := [] }),
    (109, [1, 1, 0, 0, 1, 1, 0, 0, 1, 0, 1], { live := [(6, .im (.sl (.int .u8))), (7, .keep), (8, .keep), (17, .keep)], toks := [] })])]
noncomputable def extL : List ((j : Nat) × (den (tyL ((look ptsL j).getD [])) → Option (den (tyL ((look rtsL j).getD []))))) := [⟨56, Q.cmpQ⟩, ⟨65, Q.cmpQ⟩, ⟨67, Q.mulQ⟩, ⟨69, cutF⟩, ⟨76, Q.gcdQ⟩, ⟨78, Q.ofQ⟩, ⟨81, Q.mulQ⟩, ⟨82, Q.trimQ⟩, ⟨83, Q.gcdQ⟩, ⟨86, Q.bitsQ⟩, ⟨87, Q.ofQ⟩, ⟨97, Q.trimQ⟩, ⟨98, Q.divQ⟩, ⟨105, Q.divQ⟩, ⟨110, Q.addQ⟩, ⟨111, Q.powQ⟩]
noncomputable def CT : Ctx where
  ti := look tis
  fn := look fns
  disp := fun _ f _ => match inls.elem f with
    | true => .inl
    | false => .spec f
  fid := fun i => i
  pts := fun i => (look ptsL i).getD []
  rts := fun i => (look rtsL i).getD []
  ext := lookE extL
  ann := fun i f p => match look annL i with
    | some l => lookP l f p
    | none => none
  inv := Inv
noncomputable abbrev abacistlaw09_CoerceCmp (x0 : Int × (Bool × List UInt8 × List UInt8) × List UInt8 × Bool × Int) (x1 : Int × (Bool × List UInt8 × List UInt8) × List UInt8 × Bool × Int) (x2 : Int × (Bool × List UInt8 × List UInt8) × List UInt8 × Bool × Int) : Option (Bool) := (top CT).callF 3 (x0, x1, x2)
noncomputable abbrev abacistlaw09_CoerceCmp_1 (a1 : Int) (a2 : Int) (a3 : Bool) (a4 : Int × (Bool × List UInt8 × List UInt8) × List UInt8 × Bool × Int) (a5 : Int × (Bool × List UInt8 × List UInt8) × List UInt8 × Bool × Int) (a6 : Int × (Bool × List UInt8 × List UInt8) × List UInt8 × Bool × Int) : Option (Bool) := (top CT).stage 3 [] 3 [1, 0, 1, 1, 1, 1] { env := [(3, (.ptr 48 0)), (4, (.ptr 64 0)), (5, (.ptr 80 0)), (7, (.int .i64 a1)), (8, (.int .i64 a2)), (70, (.bool a3))], heap := [(48, .box [(.int .i64 a4.1), (.bool a4.2.1.1), (.str a4.2.1.2.1), (.str a4.2.1.2.2), (.str a4.2.2.1), (.bool a4.2.2.2.1), (.int .i64 a4.2.2.2.2)]), (64, .box [(.int .i64 a5.1), (.bool a5.2.1.1), (.str a5.2.1.2.1), (.str a5.2.1.2.2), (.str a5.2.2.1), (.bool a5.2.2.2.1), (.int .i64 a5.2.2.2.2)]), (80, .box [(.int .i64 a6.1), (.bool a6.2.1.1), (.str a6.2.1.2.1), (.str a6.2.1.2.2), (.str a6.2.2.1), (.bool a6.2.2.2.1), (.int .i64 a6.2.2.2.2)])], salt := 0 }
noncomputable abbrev abacistlaw09_CoerceCmp_2 (a1 : Int) (a2 : Int) (a3 : Int) (a4 : Bool) : Option (Bool) := (top CT).stage 3 [] 3 [1, 1, 1, 1, 1, 1, 1, 1] { env := [(7, (.int .i64 a1)), (13, (.int .i64 a2)), (15, (.int .i64 a3)), (17, (.bool a4))], heap := [], salt := 0 }
noncomputable abbrev coerce_Cmp (x0 : Int × (Bool × List UInt8 × List UInt8) × List UInt8 × Bool × Int) (x1 : Int × (Bool × List UInt8 × List UInt8) × List UInt8 × Bool × Int) : Option (Int × Int) := (top CT).callF 4 (x0, x1)
noncomputable abbrev coerce_Cmp_1 (a1 : Int) (a2 : Bool) (a3 : List UInt8) (a4 : List UInt8) (a5 : List UInt8) (a6 : Bool) (a7 : Int) (a8 : Int) (a9 : Bool) (a10 : List UInt8) (a11 : List UInt8) (a12 : List UInt8) (a13 : Bool) (a14 : Int) (a15 : Int × (Bool × List UInt8 × List UInt8) × List UInt8 × Bool × Int) (a16 : Int × (Bool × List UInt8 × List UInt8) × List UInt8 × Bool × Int) : Option (Int × Int) := (top CT).stage 4 [{ f := 4, path := [0, 0, 1], op := 4, rest := [5], env := [(2, (.ptr 32 0)), (3, (.ptr 48 0))], salt := 0 }] 9 [] { env := [(0, (.func 10 [(.agg [(.int .i64 a1), (.bool a2), (.str a3), (.str a4), (.str a5), (.bool a6), (.int .i64 a7)])] [])), (1, (.func 10 [(.agg [(.int .i64 a8), (.bool a9), (.str a10), (.str a11), (.str a12), (.bool a13), (.int .i64 a14)])] []))], heap := [(32, .box [(.int .i64 a15.1), (.bool a15.2.1.1), (.str a15.2.1.2.1), (.str a15.2.1.2.2), (.str a15.2.2.1), (.bool a15.2.2.2.1), (.int .i64 a15.2.2.2.2)]), (48, .box [(.int .i64 a16.1), (.bool a16.2.1.1), (.str a16.2.1.2.1), (.str a16.2.1.2.2), (.str a16.2.2.1), (.bool a16.2.2.2.1), (.int .i64 a16.2.2.2.2)])], salt := 12 }
noncomputable abbrev coerce_Cmp_2 (a1 : Int) (a2 : Int × (Bool × List UInt8 × List UInt8) × List UInt8 × Bool × Int) (a3 : Int × (Bool × List UInt8 × List UInt8) × List UInt8 × Bool × Int) : Option (Int × Int) := (top CT).stage 4 [] 4 [1, 0, 1] { env := [(2, (.ptr 32 0)), (3, (.ptr 48 0)), (6, (.int .i64 a1))], heap := [(32, .box [(.int .i64 a2.1), (.bool a2.2.1.1), (.str a2.2.1.2.1), (.str a2.2.1.2.2), (.str a2.2.2.1), (.bool a2.2.2.2.1), (.int .i64 a2.2.2.2.2)]), (48, .box [(.int .i64 a3.1), (.bool a3.2.1.1), (.str a3.2.1.2.1), (.str a3.2.1.2.2), (.str a3.2.2.1), (.bool a3.2.2.2.1), (.int .i64 a3.2.2.2.2)])], salt := 0 }
noncomputable abbrev abacistref09_Cmp (x0 : Int × (Bool × List UInt8 × List UInt8) × List UInt8 × Bool × Int) (x1 : Int × (Bool × List UInt8 × List UInt8) × List UInt8 × Bool × Int) : Option (Int × Int) := (top CT).callF 5 (x0, x1)
noncomputable abbrev coerce_First (x0 : List (Int × (Bool × List UInt8 × List UInt8) × List UInt8 × Bool × Int)) : Option (Int) := (top CT).callF 6 (x0)
noncomputable abbrev coerce_First_1 (a1 : List (Int × (Bool × List UInt8 × List UInt8) × List UInt8 × Bool × Int)) (a2 : Int) (a3 : Int) : Option (Int) := (top CT).stage 6 [] 6 [0, 1, 0, 1] { env := [(6, (.sl (.pair (.int .i64) (.pair (.pair .bool (.pair .str .str)) (.pair .str (.pair .bool (.int .i64))))) a1 false)), (7, (.int .i64 a2)), (8, (.int .i64 a3))], heap := [], salt := 0 }
noncomputable abbrev abacistref09_First (x0 : List (Int × (Bool × List UInt8 × List UInt8) × List UInt8 × Bool × Int)) : Option (Int) := (top CT).callF 7 (x0)
noncomputable abbrev abacistref09_First_1 (a1 : List (Int × (Bool × List UInt8 × List UInt8) × List UInt8 × Bool × Int)) (a2 : Int) : Option (Int) := (top CT).stage 7 [] 7 [0, 1, 0, 1] { env := [(0, (.sl (.pair (.int .i64) (.pair (.pair .bool (.pair .str .str)) (.pair .str (.pair .bool (.int .i64))))) a1 false)), (3, (.int .i64 a2))], heap := [], salt := 0 }
noncomputable abbrev abacistlaw09_known : Option (Bool) := (top CT).callF 8 ()
noncomputable abbrev coerce_cell_fault (x0 : Int × (Bool × List UInt8 × List UInt8) × List UInt8 × Bool × Int) : Option (Int) := (top CT).callF 10 (x0)
noncomputable abbrev coerce_like (x0 : Int × (Bool × List UInt8 × List UInt8) × List UInt8 × Bool × Int) (x1 : Int) : Option (Int × (Bool × List UInt8 × List UInt8) × List UInt8 × Bool × Int) := (top CT).callF 11 (x0, x1)
noncomputable abbrev cmp_Compare_int (x0 : Int) (x1 : Int) : Option (Int) := (top CT).callF 12 (x0, x1)
noncomputable abbrev rat_Cmp (x0 : Bool × List UInt8 × List UInt8) (x1 : Bool × List UInt8 × List UInt8) : Option (Int) := (top CT).callF 13 (x0, x1)
noncomputable abbrev cmp_Or_int (x0 : List Int) : Option (Int) := (top CT).callF 14 (x0)
noncomputable abbrev cmp_Or_int_1 (a1 : Int) (a2 : List Int) (a3 : Int) (a4 : Int) : Option (Int) := (top CT).stage 14 [] 14 [0, 1, 0, 1, 1] { env := [(3, (.int .i64 a1)), (6, (.sl (.int .i64) a2 false)), (7, (.int .i64 a3)), (8, (.int .i64 a4))], heap := [], salt := 0 }
noncomputable abbrev cmp_Compare_string (x0 : List UInt8) (x1 : List UInt8) : Option (Int) := (top CT).callF 15 (x0, x1)
noncomputable abbrev cmp_Compare_int64 (x0 : Int) (x1 : Int) : Option (Int) := (top CT).callF 16 (x0, x1)
noncomputable abbrev coerce_bit (x0 : Bool) : Option (Int) := (top CT).callF 17 (x0)
noncomputable abbrev abacistref09_fault (x0 : Int × (Bool × List UInt8 × List UInt8) × List UInt8 × Bool × Int) : Option (Int) := (top CT).callF 18 (x0)
noncomputable abbrev abacistref09_like (x0 : Int × (Bool × List UInt8 × List UInt8) × List UInt8 × Bool × Int) (x1 : Int × (Bool × List UInt8 × List UInt8) × List UInt8 × Bool × Int) : Option (Int × (Bool × List UInt8 × List UInt8) × List UInt8 × Bool × Int) := (top CT).callF 19 (x0, x1)
noncomputable abbrev abacistref09_order (x0 : Int) (x1 : Int) : Option (Int) := (top CT).callF 20 (x0, x1)
noncomputable abbrev abacistref05_Cmp (x0 : Bool × List UInt8 × List UInt8) (x1 : Bool × List UInt8 × List UInt8) : Option (Int) := (top CT).callF 21 (x0, x1)
noncomputable abbrev abacistref09_bytes (x0 : List UInt8) (x1 : List UInt8) : Option (Int) := (top CT).callF 22 (x0, x1)
noncomputable abbrev abacistref09_bytes_1 (a1 : List UInt8) (a2 : List UInt8) (a3 : Int) : Option (Int) := (top CT).stage 22 [] 22 [0, 1, 0, 1] { env := [(0, (.str a1)), (1, (.str a2)), (5, (.int .i64 a3))], heap := [], salt := 0 }
noncomputable abbrev abacistref09_bytes_2 (a1 : List UInt8) (a2 : List UInt8) (a3 : Int) (a4 : Bool) : Option (Int) := (top CT).stage 22 [] 22 [1, 0, 0, 0, 1, 0, 1] { env := [(0, (.str a1)), (1, (.str a2)), (5, (.int .i64 a3)), (15, (.bool a4))], heap := [], salt := 0 }
noncomputable abbrev abacistref09_bit (x0 : Bool) : Option (Int) := (top CT).callF 23 (x0)
noncomputable abbrev coerce_Num (x0 : Int × (Bool × List UInt8 × List UInt8) × List UInt8 × Bool × Int) : Option ((Bool × List UInt8 × List UInt8) × Int) := (top CT).callF 24 (x0)
noncomputable abbrev abacistref08_Text (x0 : List UInt8) : Option (Int × (Bool × List UInt8 × List UInt8) × List UInt8 × Bool × Int) := (top CT).callF 25 (x0)
noncomputable abbrev coerce_Truth (x0 : Int × (Bool × List UInt8 × List UInt8) × List UInt8 × Bool × Int) : Option (Bool × Int) := (top CT).callF 26 (x0)
noncomputable abbrev coerce_Truth_1 (a1 : Bool) (a2 : Int × (Bool × List UInt8 × List UInt8) × List UInt8 × Bool × Int) : Option (Bool × Int) := (top CT).stage 26 [] 26 [1, 1, 0, 0, 1, 1, 1, 0, 1, 0, 1, 1] { env := [(1, (.ptr 16 0)), (34, (.bool a1))], heap := [(16, .box [(.int .i64 a2.1), (.bool a2.2.1.1), (.str a2.2.1.2.1), (.str a2.2.1.2.2), (.str a2.2.2.1), (.bool a2.2.2.2.1), (.int .i64 a2.2.2.2.2)])], salt := 0 }
noncomputable abbrev abacistref08_Fault (x0 : Int) : Option (Int × (Bool × List UInt8 × List UInt8) × List UInt8 × Bool × Int) := (top CT).callF 27 (x0)
noncomputable abbrev abacistref08_Fault_1 (a1 : Int) (a2 : Bool) (a3 : Int × (Bool × List UInt8 × List UInt8) × List UInt8 × Bool × Int) : Option (Int × (Bool × List UInt8 × List UInt8) × List UInt8 × Bool × Int) := (top CT).stage 27 [] 27 [1, 0, 1] { env := [(0, (.int .i64 a1)), (2, (.ptr 32 0)), (8, (.bool a2))], heap := [(32, .box [(.int .i64 a3.1), (.bool a3.2.1.1), (.str a3.2.1.2.1), (.str a3.2.1.2.2), (.str a3.2.2.1), (.bool a3.2.2.2.1), (.int .i64 a3.2.2.2.2)])], salt := 0 }
noncomputable abbrev abacistref08_Fault_2 (a1 : Int) (a2 : Int × (Bool × List UInt8 × List UInt8) × List UInt8 × Bool × Int) : Option (Int × (Bool × List UInt8 × List UInt8) × List UInt8 × Bool × Int) := (top CT).stage 27 [] 27 [1, 1] { env := [(0, (.int .i64 a1)), (2, (.ptr 32 0))], heap := [(32, .box [(.int .i64 a2.1), (.bool a2.2.1.1), (.str a2.2.1.2.1), (.str a2.2.1.2.2), (.str a2.2.2.1), (.bool a2.2.2.2.1), (.int .i64 a2.2.2.2.2)])], salt := 0 }
noncomputable abbrev abacistref08_Truth (x0 : Bool) : Option (Int × (Bool × List UInt8 × List UInt8) × List UInt8 × Bool × Int) := (top CT).callF 28 (x0)
noncomputable abbrev value_Right (x0 : Int × (Bool × List UInt8 × List UInt8) × List UInt8 × Bool × Int) : Option (Bool) := (top CT).callF 29 (x0)
noncomputable abbrev value_Num (x0 : Bool × List UInt8 × List UInt8) : Option (Int × (Bool × List UInt8 × List UInt8) × List UInt8 × Bool × Int) := (top CT).callF 30 (x0)
noncomputable abbrev value_Num_1 (a1 : Bool × List UInt8 × List UInt8) (a2 : Int × (Bool × List UInt8 × List UInt8) × List UInt8 × Bool × Int) : Option (Int × (Bool × List UInt8 × List UInt8) × List UInt8 × Bool × Int) := (top CT).stage 30 [] 30 [1, 1] { env := [(1, (.ptr 16 0)), (2, (.ptr 32 0))], heap := [(16, .box [(.bool a1.1), (.str a1.2.1), (.str a1.2.2)]), (32, .box [(.int .i64 a2.1), (.bool a2.2.1.1), (.str a2.2.1.2.1), (.str a2.2.1.2.2), (.str a2.2.2.1), (.bool a2.2.2.2.1), (.int .i64 a2.2.2.2.2)])], salt := 0 }
noncomputable abbrev rat_Of (x0 : Int) : Option (Bool × List UInt8 × List UInt8) := (top CT).callF 31 (x0)
noncomputable abbrev value_Text (x0 : List UInt8) : Option (Int × (Bool × List UInt8 × List UInt8) × List UInt8 × Bool × Int) := (top CT).callF 32 (x0)
noncomputable abbrev value_Truth (x0 : Bool) : Option (Int × (Bool × List UInt8 × List UInt8) × List UInt8 × Bool × Int) := (top CT).callF 33 (x0)
noncomputable abbrev cmp_isNaN_int (x0 : Int) : Option (Bool) := (top CT).callF 34 (x0)
noncomputable abbrev whole_Cmp (x0 : Bool × List UInt8) (x1 : Bool × List UInt8) : Option (Int) := (top CT).callF 35 (x0, x1)
noncomputable abbrev whole_Cmp_1 (a1 : Int) (a2 : Bool) (a3 : Bool × List UInt8) (a4 : Bool × List UInt8) : Option (Int) := (top CT).stage 35 [] 35 [1, 0, 0, 1, 1, 1] { env := [(2, (.ptr 32 0)), (3, (.ptr 48 0)), (5, (.int .i64 a1)), (15, (.bool a2))], heap := [(32, .box [(.bool a3.1), (.str a3.2)]), (48, .box [(.bool a4.1), (.str a4.2)])], salt := 0 }
noncomputable abbrev rat_crossed (x0 : Bool × List UInt8 × List UInt8) (x1 : Bool × List UInt8 × List UInt8) : Option ((Bool × List UInt8) × Bool × List UInt8) := (top CT).callF 36 (x0, x1)
noncomputable abbrev rat_well (x0 : Bool × List UInt8 × List UInt8) : Option (Bool × List UInt8 × List UInt8) := (top CT).callF 37 (x0)
noncomputable abbrev cmp_isNaN_string (x0 : List UInt8) : Option (Bool) := (top CT).callF 38 (x0)
noncomputable abbrev cmp_isNaN_int64 (x0 : Int) : Option (Bool) := (top CT).callF 39 (x0)
noncomputable abbrev abacistref08_Right (x0 : Int × (Bool × List UInt8 × List UInt8) × List UInt8 × Bool × Int) : Option (Bool) := (top CT).callF 40 (x0)
noncomputable abbrev abacistref08_Num (x0 : Bool × List UInt8 × List UInt8) : Option (Int × (Bool × List UInt8 × List UInt8) × List UInt8 × Bool × Int) := (top CT).callF 41 (x0)
noncomputable abbrev abacistref05_Of (x0 : Int) : Option (Bool × List UInt8 × List UInt8) := (top CT).callF 42 (x0)
noncomputable abbrev abacistref04_Cmp (x0 : Bool × List UInt8) (x1 : Bool × List UInt8) : Option (Int) := (top CT).callF 43 (x0, x1)
noncomputable abbrev abacistref04_Mul (x0 : Bool × List UInt8) (x1 : Bool × List UInt8) : Option (Bool × List UInt8) := (top CT).callF 44 (x0, x1)
noncomputable abbrev abacistref05_Top (x0 : Bool × List UInt8 × List UInt8) : Option (Bool × List UInt8) := (top CT).callF 45 (x0)
noncomputable abbrev abacistref05_Low (x0 : Bool × List UInt8 × List UInt8) : Option (Bool × List UInt8) := (top CT).callF 46 (x0)
noncomputable abbrev numtext_Parse (x0 : List UInt8) : Option ((Bool × List UInt8 × List UInt8) × Int) := (top CT).callF 47 (x0)
noncomputable abbrev numtext_Parse_1 (a1 : Bool) (a2 : Int) (a3 : Bool × List UInt8 × List UInt8) (a4 : Bool × List UInt8 × List UInt8) : Option ((Bool × List UInt8 × List UInt8) × Int) := (top CT).stage 47 [] 47 [1, 1, 1, 1, 1, 1] { env := [(2, (.ptr 32 0)), (4, (.bool a1)), (8, (.ptr 128 0)), (9, (.int .i64 a2))], heap := [(32, .box [(.bool a3.1), (.str a3.2.1), (.str a3.2.2)]), (128, .box [(.bool a4.1), (.str a4.2.1), (.str a4.2.2)])], salt := 0 }
noncomputable abbrev numtext_Parse_2 (a1 : Int) (a2 : Bool) (a3 : Bool × List UInt8 × List UInt8) (a4 : Bool × List UInt8 × List UInt8) : Option ((Bool × List UInt8 × List UInt8) × Int) := (top CT).stage 47 [] 47 [1, 0, 1, 1, 1, 1, 1, 1] { env := [(2, (.ptr 32 0)), (8, (.ptr 128 0)), (9, (.int .i64 a1)), (37, (.bool a2))], heap := [(32, .box [(.bool a3.1), (.str a3.2.1), (.str a3.2.2)]), (128, .box [(.bool a4.1), (.str a4.2.1), (.str a4.2.2)])], salt := 0 }
noncomputable abbrev numtext_Parse_3 (a1 : Int) (a2 : Bool × List UInt8 × List UInt8) (a3 : Bool × List UInt8 × List UInt8) : Option ((Bool × List UInt8 × List UInt8) × Int) := (top CT).stage 47 [] 47 [1, 1, 1, 1, 1, 1, 1] { env := [(2, (.ptr 32 0)), (8, (.ptr 128 0)), (9, (.int .i64 a1))], heap := [(32, .box [(.bool a2.1), (.str a2.2.1), (.str a2.2.2)]), (128, .box [(.bool a3.1), (.str a3.2.1), (.str a3.2.2)])], salt := 0 }
noncomputable abbrev abacistref08_Plain (x0 : List UInt8) : Option (Bool) := (top CT).callF 48 (x0)
noncomputable abbrev abacistref08_Plain_1 (a1 : List UInt8) (a2 : Int) : Option (Bool) := (top CT).stage 48 [] 48 [0, 1, 0, 1, 1] { env := [(0, (.str a1)), (3, (.int .i64 a2))], heap := [], salt := 0 }
noncomputable abbrev abacistref08_Plain_2 (a1 : List UInt8) (a2 : Int) (a3 : Bool) : Option (Bool) := (top CT).stage 48 [] 48 [1, 0, 0, 1, 0, 0, 1, 0, 1, 1] { env := [(0, (.str a1)), (3, (.int .i64 a2)), (22, (.bool a3))], heap := [], salt := 0 }
noncomputable abbrev rat_Sign (x0 : Bool × List UInt8 × List UInt8) : Option (Int) := (top CT).callF 49 (x0)
noncomputable abbrev value_Literal (x0 : List UInt8) : Option ((Int × (Bool × List UInt8 × List UInt8) × List UInt8 × Bool × Int) × Int) := (top CT).callF 50 (x0)
noncomputable abbrev value_Literal_1 (a1 : List UInt8) (a2 : Bool) (a3 : Int × (Bool × List UInt8 × List UInt8) × List UInt8 × Bool × Int) : Option ((Int × (Bool × List UInt8 × List UInt8) × List UInt8 × Bool × Int) × Int) := (top CT).stage 50 [] 50 [1, 1, 1, 0, 1, 0, 1, 1] { env := [(0, (.str a1)), (2, (.ptr 32 0)), (16, (.bool a2))], heap := [(32, .box [(.int .i64 a3.1), (.bool a3.2.1.1), (.str a3.2.1.2.1), (.str a3.2.1.2.2), (.str a3.2.2.1), (.bool a3.2.2.2.1), (.int .i64 a3.2.2.2.2)])], salt := 0 }
noncomputable abbrev value_Fault (x0 : Int) : Option (Int × (Bool × List UInt8 × List UInt8) × List UInt8 × Bool × Int) := (top CT).callF 51 (x0)
noncomputable abbrev value_Fault_1 (a1 : Int) (a2 : Int × (Bool × List UInt8 × List UInt8) × List UInt8 × Bool × Int) : Option (Int × (Bool × List UInt8 × List UInt8) × List UInt8 × Bool × Int) := (top CT).stage 51 [] 51 [1, 1] { env := [(0, (.int .i64 a1)), (2, (.ptr 32 0))], heap := [(32, .box [(.int .i64 a2.1), (.bool a2.2.1.1), (.str a2.2.1.2.1), (.str a2.2.1.2.2), (.str a2.2.2.1), (.bool a2.2.2.2.1), (.int .i64 a2.2.2.2.2)])], salt := 0 }
noncomputable abbrev rat_Right (x0 : Bool × List UInt8 × List UInt8) : Option (Bool) := (top CT).callF 52 (x0)
noncomputable abbrev rat_Right_1 (a1 : Bool) (a2 : Bool × List UInt8 × List UInt8) : Option (Bool) := (top CT).stage 52 [] 52 [1, 0, 0, 1] { env := [(1, (.ptr 16 0)), (3, (.bool a1))], heap := [(16, .box [(.bool a2.1), (.str a2.2.1), (.str a2.2.2)])], salt := 0 }
noncomputable abbrev whole_Of (x0 : Int) : Option (Bool × List UInt8) := (top CT).callF 53 (x0)
noncomputable abbrev value_plain (x0 : List UInt8) : Option (Bool) := (top CT).callF 54 (x0)
noncomputable abbrev value_plain_1 (a1 : List UInt8) (a2 : List Int) (a3 : Int) (a4 : Int) : Option (Bool) := (top CT).stage 54 [] 54 [0, 1, 0, 1] { env := [(0, (.str a1)), (6, (.sl (.int .u8) a2 false)), (7, (.int .i64 a3)), (8, (.int .i64 a4))], heap := [], salt := 0 }
noncomputable abbrev value_plain_2 (a1 : List UInt8) (a2 : List Int) (a3 : Int) (a4 : Int) (a5 : Bool) : Option (Bool) := (top CT).stage 54 [] 54 [1, 1, 0, 0, 1, 1, 0, 0, 1, 0, 1] { env := [(0, (.str a1)), (6, (.sl (.int .u8) a2 false)), (7, (.int .i64 a3)), (8, (.int .i64 a4)), (17, (.bool a5))], heap := [], salt := 0 }
noncomputable abbrev whole_well (x0 : Bool × List UInt8) : Option (Bool × List UInt8) := (top CT).callF 55 (x0)
noncomputable abbrev nat_Cmp (x0 : List UInt8) (x1 : List UInt8) : Option (Int) := (top CT).callF 56 (x0, x1)
noncomputable abbrev rat_top (x0 : Bool × List UInt8 × List UInt8) : Option (Bool × List UInt8) := (top CT).callF 57 (x0)
noncomputable abbrev whole_Mul (x0 : Bool × List UInt8) (x1 : Bool × List UInt8) : Option (Bool × List UInt8) := (top CT).callF 58 (x0, x1)
noncomputable abbrev rat_low (x0 : Bool × List UInt8 × List UInt8) : Option (Bool × List UInt8) := (top CT).callF 59 (x0)
noncomputable abbrev abacistref05_Right (x0 : Bool × List UInt8 × List UInt8) : Option (Bool) := (top CT).callF 60 (x0)
noncomputable abbrev abacistref05_Right_1 (a1 : Bool) (a2 : Bool × List UInt8 × List UInt8) : Option (Bool) := (top CT).stage 60 [] 60 [1, 0, 1] { env := [(1, (.ptr 16 0)), (33, (.bool a1))], heap := [(16, .box [(.bool a2.1), (.str a2.2.1), (.str a2.2.2)])], salt := 0 }
noncomputable abbrev abacistref05_Well (x0 : Bool × List UInt8 × List UInt8) : Option (Bool × List UInt8 × List UInt8) := (top CT).callF 61 (x0)
noncomputable abbrev abacistref05_Make (x0 : Bool × List UInt8) (x1 : Bool × List UInt8) : Option ((Bool × List UInt8 × List UInt8) × Int) := (top CT).callF 62 (x0, x1)
noncomputable abbrev abacistref05_Make_1 (a1 : List UInt8) (a2 : List UInt8) (a3 : Bool) (a4 : Bool × List UInt8 × List UInt8) (a5 : Bool × List UInt8) (a6 : Bool × List UInt8) : Option ((Bool × List UInt8 × List UInt8) × Int) := (top CT).stage 62 [] 62 [1, 0, 1, 1, 1, 1, 1, 1, 1] { env := [(4, (.ptr 64 0)), (6, (.ptr 96 0)), (7, (.ptr 112 0)), (9, (.str a1)), (10, (.str a2)), (45, (.bool a3))], heap := [(64, .box [(.bool a4.1), (.str a4.2.1), (.str a4.2.2)]), (96, .box [(.bool a5.1), (.str a5.2)]), (112, .box [(.bool a6.1), (.str a6.2)])], salt := 0 }
noncomputable abbrev abacistref04_Of (x0 : Int) : Option (Bool × List UInt8) := (top CT).callF 63 (x0)
noncomputable abbrev abacistref04_well (x0 : Bool × List UInt8) : Option (Bool × List UInt8) := (top CT).callF 64 (x0)
noncomputable abbrev abacistref01_Cmp (x0 : List UInt8) (x1 : List UInt8) : Option (Int) := (top CT).callF 65 (x0, x1)
noncomputable abbrev abacistref04_Make (x0 : Bool) (x1 : List UInt8) : Option (Bool × List UInt8) := (top CT).callF 66 (x0, x1)
noncomputable abbrev abacistref01_Mul (x0 : List UInt8) (x1 : List UInt8) : Option (List UInt8) := (top CT).callF 67 (x0, x1)
noncomputable abbrev strings_CutPrefix (x0 : List UInt8) (x1 : List UInt8) : Option (List UInt8 × Bool) := (top CT).callF 68 (x0, x1)
noncomputable abbrev strings_Cut (x0 : List UInt8) (x1 : List UInt8) : Option (List UInt8 × List UInt8 × Bool) := (top CT).callF 69 (x0, x1)
noncomputable abbrev numtext_fraction (x0 : List UInt8) (x1 : List UInt8) : Option ((Bool × List UInt8 × List UInt8) × Int) := (top CT).callF 70 (x0, x1)
noncomputable abbrev numtext_fraction_1 (a1 : List UInt8) (a2 : Int) (a3 : List UInt8) (a4 : Int) (a5 : Bool) (a6 : Bool × List UInt8 × List UInt8) : Option ((Bool × List UInt8 × List UInt8) × Int) := (top CT).stage 70 [] 70 [1, 0, 0, 0, 0, 0, 0, 0, 0, 0, 0, 1, 1, 1] { env := [(4, (.ptr 64 0)), (6, (.str a1)), (7, (.int .i64 a2)), (8, (.str a3)), (9, (.int .i64 a4)), (20, (.bool a5))], heap := [(64, .box [(.bool a6.1), (.str a6.2.1), (.str a6.2.2)])], salt := 0 }
noncomputable abbrev numtext_fraction_2 (a1 : List UInt8) (a2 : Int) (a3 : List UInt8) (a4 : Bool × List UInt8 × List UInt8) : Option ((Bool × List UInt8 × List UInt8) × Int) := (top CT).stage 70 [] 70 [1, 0, 0, 1, 1, 1] { env := [(4, (.ptr 64 0)), (6, (.str a1)), (7, (.int .i64 a2)), (8, (.str a3))], heap := [(64, .box [(.bool a4.1), (.str a4.2.1), (.str a4.2.2)])], salt := 0 }
noncomputable abbrev numtext_Decimal (x0 : List UInt8) : Option ((Bool × List UInt8 × List UInt8) × Int) := (top CT).callF 71 (x0)
noncomputable abbrev numtext_Decimal_1 (a1 : List UInt8) (a2 : List UInt8) (a3 : List UInt8) (a4 : Bool) (a5 : Bool × List UInt8 × List UInt8) : Option ((Bool × List UInt8 × List UInt8) × Int) := (top CT).stage 71 [] 71 [1, 0, 0, 1, 1] { env := [(0, (.str a1)), (2, (.ptr 32 0)), (4, (.str a2)), (5, (.str a3)), (15, (.bool a4))], heap := [(32, .box [(.bool a5.1), (.str a5.2.1), (.str a5.2.2)])], salt := 0 }
noncomputable abbrev rat_Neg (x0 : Bool × List UInt8 × List UInt8) : Option (Bool × List UInt8 × List UInt8) := (top CT).callF 72 (x0)
noncomputable abbrev rat_Neg_1 (a1 : Bool × List UInt8 × List UInt8) (a2 : Bool × List UInt8 × List UInt8) : Option (Bool × List UInt8 × List UInt8) := (top CT).stage 72 [] 72 [1, 1, 1] { env := [(1, (.ptr 16 0)), (2, (.ptr 32 0))], heap := [(16, .box [(.bool a1.1), (.str a1.2.1), (.str a1.2.2)]), (32, .box [(.bool a2.1), (.str a2.2.1), (.str a2.2.2)])], salt := 0 }
noncomputable abbrev value_Named (x0 : List UInt8) : Option (Int × Bool) := (top CT).callF 73 (x0)
noncomputable abbrev value_Named_1 (a1 : List UInt8) : Option (Int × Bool) := (top CT).stage 73 [{ f := 73, path := [0, 0, 1], op := 0, rest := [1], env := [(0, (.str a1))], salt := 0 }] 96 [] { env := [], heap := [], salt := 7 }
noncomputable abbrev value_Named_2 (a1 : List UInt8) (a2 : List UInt8) (a3 : List UInt8) (a4 : List UInt8) (a5 : List UInt8) (a6 : List UInt8) (a7 : List UInt8) (a8 : List UInt8) (a9 : List UInt8) (a10 : Int) : Option (Int × Bool) := (top CT).stage 73 [] 73 [0, 1, 0, 1] { env := [(0, (.str a1)), (6, (.agg [(.str a2), (.str a3), (.str a4), (.str a5), (.str a6), (.str a7), (.str a8), (.str a9)])), (7, (.int .i64 a10))], heap := [], salt := 0 }
noncomputable abbrev value_Named_3 (a1 : List UInt8) (a2 : Int) (a3 : List UInt8) (a4 : List UInt8) (a5 : List UInt8) (a6 : List UInt8) (a7 : List UInt8) (a8 : List UInt8) (a9 : List UInt8) (a10 : List UInt8) (a11 : Int) (a12 : Bool) : Option (Int × Bool) := (top CT).stage 73 [] 73 [1, 1, 0, 0, 1, 1, 0, 0, 1, 0, 1] { env := [(0, (.str a1)), (4, (.int .i64 a2)), (6, (.agg [(.str a3), (.str a4), (.str a5), (.str a6), (.str a7), (.str a8), (.str a9), (.str a10)])), (7, (.int .i64 a11)), (17, (.bool a12))], heap := [], salt := 0 }
noncomputable abbrev value_Name (x0 : Int) : Option (List UInt8) := (top CT).callF 74 (x0)
noncomputable abbrev value_Name_1 (a1 : Int) : Option (List UInt8) := (top CT).stage 74 [{ f := 74, path := [0, 1], op := 0, rest := [1, 2], env := [(0, (.int .i64 a1))], salt := 0 }] 96 [] { env := [], heap := [], salt := 5 }
noncomputable abbrev value_Name_2 (a1 : Int) (a2 : Bool) (a3 : List UInt8) (a4 : List UInt8) (a5 : List UInt8) (a6 : List UInt8) (a7 : List UInt8) (a8 : List UInt8) (a9 : List UInt8) (a10 : List UInt8) : Option (List UInt8) := (top CT).stage 74 [] 74 [1, 0, 1, 1] { env := [(0, (.int .i64 a1)), (3, (.ptr 48 0)), (10, (.bool a2))], heap := [(48, .box [(.str a3), (.str a4), (.str a5), (.str a6), (.str a7), (.str a8), (.str a9), (.str a10)])], salt := 0 }
noncomputable abbrev rat_tidy (x0 : List UInt8) : Option (Bool) := (top CT).callF 75 (x0)
noncomputable abbrev divide_Gcd (x0 : List UInt8) (x1 : List UInt8) : Option (List UInt8) := (top CT).callF 76 (x0, x1)
noncomputable abbrev whole_Make (x0 : Bool) (x1 : List UInt8) : Option (Bool × List UInt8) := (top CT).callF 77 (x0, x1)
noncomputable abbrev nat_Of (x0 : Int) : Option (List UInt8) := (top CT).callF 78 (x0)
noncomputable abbrev nat_Mul (x0 : List UInt8) (x1 : List UInt8) : Option (List UInt8) := (top CT).callF 81 (x0, x1)
noncomputable abbrev abacistref01_Trim (x0 : List UInt8) : Option (List UInt8) := (top CT).callF 82 (x0)
noncomputable abbrev abacistref02_Gcd (x0 : List UInt8) (x1 : List UInt8) : Option (List UInt8) := (top CT).callF 83 (x0, x1)
noncomputable abbrev abacistref05_Zero : Option (Bool × List UInt8 × List UInt8) := (top CT).callF 84 ()
noncomputable abbrev abacistref02_Div (x0 : List UInt8) (x1 : List UInt8) : Option (List UInt8) := (top CT).callF 85 (x0, x1)
noncomputable abbrev abacistref01_Bits (x0 : List UInt8) : Option (Int) := (top CT).callF 86 (x0)
noncomputable abbrev abacistref01_Of (x0 : Int) : Option (List UInt8) := (top CT).callF 87 (x0)
noncomputable abbrev internal_stringslite_CutPrefix (x0 : List UInt8) (x1 : List UInt8) : Option (List UInt8 × Bool) := (top CT).callF 90 (x0, x1)
noncomputable abbrev dec_Parse (x0 : List UInt8) : Option (List UInt8 × Int) := (top CT).callF 92 (x0)
noncomputable abbrev dec_Parse_1 (a1 : List UInt8) (a2 : Bool) : Option (List UInt8 × Int) := (top CT).stage 92 [] 92 [1, 0, 0, 1] { env := [(0, (.str a1)), (10, (.bool a2))], heap := [], salt := 0 }
noncomputable abbrev dec_Parse_2 (a1 : List UInt8) (a2 : List UInt8) : Option (List UInt8 × Int) := (top CT).stage 92 [] 92 [0, 0, 1, 1, 1] { env := [(0, (.str a1)), (4, (.str a2))], heap := [], salt := 0 }
noncomputable abbrev dec_Parse_3 (a1 : List UInt8) (a2 : List UInt8) (a3 : Int) (a4 : Int) (a5 : Int) (a6 : List Int) (a7 : Int) (a8 : Int) : Option (List UInt8 × Int) := (top CT).stage 92 [] 92 [0, 1, 0, 1, 1, 0, 1, 0, 0, 0, 1, 1, 1] { env := [(0, (.str a1)), (4, (.str a2)), (5, (.int .i64 a3)), (6, (.int .u64 a4)), (7, (.int .u64 a5)), (30, (.sl (.int .u8) a6 false)), (31, (.int .i64 a7)), (32, (.int .i64 a8))], heap := [], salt := 0 }
noncomputable abbrev rat_Make (x0 : Bool × List UInt8) (x1 : Bool × List UInt8) : Option ((Bool × List UInt8 × List UInt8) × Int) := (top CT).callF 93 (x0, x1)
noncomputable abbrev rat_Make_1 (a1 : List UInt8) (a2 : List UInt8) (a3 : Bool × List UInt8) (a4 : Bool × List UInt8) (a5 : Bool × List UInt8 × List UInt8) : Option ((Bool × List UInt8 × List UInt8) × Int) := (top CT).stage 93 [] 93 [1, 1, 1, 1] { env := [(2, (.ptr 32 0)), (3, (.ptr 48 0)), (4, (.ptr 64 0)), (6, (.str a1)), (7, (.str a2))], heap := [(32, .box [(.bool a3.1), (.str a3.2)]), (48, .box [(.bool a4.1), (.str a4.2)]), (64, .box [(.bool a5.1), (.str a5.2.1), (.str a5.2.2)])], salt := 0 }
noncomputable abbrev rat_Make_2 (a1 : List UInt8) (a2 : List UInt8) (a3 : Bool) (a4 : Bool × List UInt8) (a5 : Bool × List UInt8) (a6 : Bool × List UInt8 × List UInt8) : Option ((Bool × List UInt8 × List UInt8) × Int) := (top CT).stage 93 [] 93 [1, 0, 1, 1, 1, 1] { env := [(2, (.ptr 32 0)), (3, (.ptr 48 0)), (4, (.ptr 64 0)), (6, (.str a1)), (7, (.str a2)), (44, (.bool a3))], heap := [(32, .box [(.bool a4.1), (.str a4.2)]), (48, .box [(.bool a5.1), (.str a5.2)]), (64, .box [(.bool a6.1), (.str a6.2.1), (.str a6.2.2)])], salt := 0 }
noncomputable abbrev numtext_digits (x0 : List UInt8) : Option (Bool) := (top CT).callF 94 (x0)
noncomputable abbrev numtext_digits_1 (a1 : List UInt8) (a2 : List Int) (a3 : Int) (a4 : Int) : Option (Bool) := (top CT).stage 94 [] 94 [0, 1, 0, 1] { env := [(0, (.str a1)), (6, (.sl (.int .u8) a2 false)), (7, (.int .i64 a3)), (8, (.int .i64 a4))], heap := [], salt := 0 }
noncomputable abbrev numtext_digits_2 (a1 : List UInt8) (a2 : List Int) (a3 : Int) (a4 : Int) (a5 : Bool) : Option (Bool) := (top CT).stage 94 [] 94 [1, 1, 0, 0, 1, 1, 0, 0, 1, 0, 1] { env := [(0, (.str a1)), (6, (.sl (.int .u8) a2 false)), (7, (.int .i64 a3)), (8, (.int .i64 a4)), (17, (.bool a5))], heap := [], salt := 0 }
noncomputable abbrev numtext_power (x0 : Int) (x1 : Int) : Option (List UInt8) := (top CT).callF 95 (x0, x1)
noncomputable abbrev nat_Trim (x0 : List UInt8) : Option (List UInt8) := (top CT).callF 97 (x0)
noncomputable abbrev divide_DivMod (x0 : List UInt8) (x1 : List UInt8) : Option (List UInt8 × List UInt8 × Int) := (top CT).callF 98 (x0, x1)
noncomputable abbrev abacistref02_DivMod (x0 : List UInt8) (x1 : List UInt8) : Option (List UInt8 × List UInt8 × Int) := (top CT).callF 105 (x0, x1)
noncomputable abbrev internal_stringslite_HasPrefix (x0 : List UInt8) (x1 : List UInt8) : Option (Bool) := (top CT).callF 107 (x0, x1)
noncomputable abbrev dec_odd (x0 : List UInt8) : Option (Bool) := (top CT).callF 109 (x0)
noncomputable abbrev dec_odd_1 (a1 : List Int) (a2 : Int) (a3 : Int) : Option (Bool) := (top CT).stage 109 [] 109 [0, 1, 0, 1] { env := [(6, (.sl (.int .u8) a1 false)), (7, (.int .i64 a2)), (8, (.int .i64 a3))], heap := [], salt := 0 }
noncomputable abbrev dec_odd_2 (a1 : List Int) (a2 : Int) (a3 : Int) (a4 : Bool) : Option (Bool) := (top CT).stage 109 [] 109 [1, 1, 0, 0, 1, 1, 0, 0, 1, 0, 1] { env := [(6, (.sl (.int .u8) a1 false)), (7, (.int .i64 a2)), (8, (.int .i64 a3)), (17, (.bool a4))], heap := [], salt := 0 }
noncomputable abbrev nat_Add (x0 : List UInt8) (x1 : List UInt8) : Option (List UInt8) := (top CT).callF 110 (x0, x1)
noncomputable abbrev divide_Pow (x0 : List UInt8) (x1 : Int) : Option (List UInt8 × Int) := (top CT).callF 111 (x0, x1)
end Go.Proofs.YtodfaihlddiokaaGreatDoor.K

/- The tables are the program's own. -/
set_option linter.unusedVariables false
set_option maxRecDepth 100000
namespace Go.Proofs.YtodfaihlddiokaaGreatDoor.K
open Go
theorem look_all {α : Type} {Q : Nat → α → Prop} : ∀ {l : List (Nat × α)}, (∀ p ∈ l, Q p.1 p.2) → ∀ t v, look l t = some v → Q t v
  | [], _, t, v, h => by cases h
  | (u, x) :: l, hl, t, v, h => by
    simp only [look] at h
    split at h
    · rename_i hb
      have := Nat.eq_of_beq_eq_true hb
      subst this
      cases h
      exact hl _ (List.mem_cons_self ..)
    · exact look_all (fun p hp => hl p (List.mem_cons_of_mem _ hp)) t v h
theorem all_nil {α : Type} {Q : Nat → α → Prop} : ∀ p ∈ ([] : List (Nat × α)), Q p.1 p.2 := fun p h => by cases h
theorem all_cons {α : Type} {Q : Nat → α → Prop} {u : Nat} {x : α} {l : List (Nat × α)} (h : Q u x) (hl : ∀ p ∈ l, Q p.1 p.2) : ∀ p ∈ (u, x) :: l, Q p.1 p.2 := fun p hp => by
  rcases List.mem_cons.1 hp with rfl | hp
  · exact h
  · exact hl p hp
theorem tiok2 : TIok Tryz.prog 2 ti2 := ⟨by kernel_rfl, by kernel_rfl, by kernel_rfl, by kernel_rfl, by kernel_rfl, by kernel_rfl, by kernel_rfl, by kernel_rfl, ⟨by kernel_rfl, by kernel_rfl, by kernel_rfl⟩, fun h => by cases h⟩
theorem tiok3 : TIok Tryz.prog 3 ti3 := ⟨by kernel_rfl, by kernel_rfl, by kernel_rfl, by kernel_rfl, by kernel_rfl, by kernel_rfl, by kernel_rfl, by kernel_rfl, ⟨by kernel_rfl, by kernel_rfl, by kernel_rfl⟩, fun h => by cases h⟩
theorem tiok4 : TIok Tryz.prog 4 ti4 := ⟨by kernel_rfl, by kernel_rfl, by kernel_rfl, by kernel_rfl, by kernel_rfl, by kernel_rfl, by kernel_rfl, by kernel_rfl, ⟨by kernel_rfl, by kernel_rfl, by kernel_rfl⟩, fun h => by cases h⟩
theorem tiok5 : TIok Tryz.prog 5 ti5 := ⟨by kernel_rfl, by kernel_rfl, by kernel_rfl, by kernel_rfl, by kernel_rfl, by kernel_rfl, by kernel_rfl, by kernel_rfl, ⟨by kernel_rfl, by kernel_rfl, by kernel_rfl⟩, fun h => by cases h⟩
theorem tiok9 : TIok Tryz.prog 9 ti9 := ⟨by kernel_rfl, by kernel_rfl, by kernel_rfl, by kernel_rfl, by kernel_rfl, by kernel_rfl, by kernel_rfl, by kernel_rfl, ⟨by kernel_rfl, by kernel_rfl, by kernel_rfl⟩, fun h => by cases h⟩
theorem tiok23 : TIok Tryz.prog 23 ti23 := ⟨by kernel_rfl, by kernel_rfl, by kernel_rfl, by kernel_rfl, by kernel_rfl, by kernel_rfl, by kernel_rfl, by kernel_rfl, ⟨by kernel_rfl, by kernel_rfl, by kernel_rfl⟩, fun _ => eq_fits (by kernel_rfl) (by kernel_rfl)⟩
theorem tiok25 : TIok Tryz.prog 25 ti25 := ⟨by kernel_rfl, by kernel_rfl, by kernel_rfl, by kernel_rfl, by kernel_rfl, by kernel_rfl, by kernel_rfl, by kernel_rfl, ⟨by kernel_rfl, by kernel_rfl, by kernel_rfl⟩, fun _ => eq_fits (by kernel_rfl) (by kernel_rfl)⟩
theorem tiok30 : TIok Tryz.prog 30 ti30 := ⟨by kernel_rfl, by kernel_rfl, by kernel_rfl, by kernel_rfl, by kernel_rfl, by kernel_rfl, by kernel_rfl, by kernel_rfl, ⟨by kernel_rfl, by kernel_rfl, by kernel_rfl⟩, fun h => by cases h⟩
theorem tiok35 : TIok Tryz.prog 35 ti35 := ⟨by kernel_rfl, by kernel_rfl, by kernel_rfl, by kernel_rfl, by kernel_rfl, by kernel_rfl, by kernel_rfl, by kernel_rfl, ⟨by kernel_rfl, by kernel_rfl, by kernel_rfl⟩, fun h => by cases h⟩
theorem tiok59 : TIok Tryz.prog 59 ti59 := ⟨by kernel_rfl, by kernel_rfl, by kernel_rfl, by kernel_rfl, by kernel_rfl, by kernel_rfl, by kernel_rfl, by kernel_rfl, ⟨by kernel_rfl, by kernel_rfl, by kernel_rfl⟩, fun h => by cases h⟩
theorem tiok63 : TIok Tryz.prog 63 ti63 := ⟨by kernel_rfl, by kernel_rfl, by kernel_rfl, by kernel_rfl, by kernel_rfl, by kernel_rfl, by kernel_rfl, by kernel_rfl, ⟨by kernel_rfl, by kernel_rfl, by kernel_rfl⟩, fun h => by cases h⟩
theorem tiok89 : TIok Tryz.prog 89 ti89 := ⟨by kernel_rfl, by kernel_rfl, by kernel_rfl, by kernel_rfl, by kernel_rfl, by kernel_rfl, by kernel_rfl, by kernel_rfl, ⟨by kernel_rfl, by kernel_rfl, by kernel_rfl⟩, fun h => by cases h⟩
theorem tiok90 : TIok Tryz.prog 90 ti90 := ⟨by kernel_rfl, by kernel_rfl, by kernel_rfl, by kernel_rfl, by kernel_rfl, by kernel_rfl, by kernel_rfl, by kernel_rfl, ⟨by kernel_rfl, by kernel_rfl, by kernel_rfl⟩, fun h => by cases h⟩
theorem tiok104 : TIok Tryz.prog 104 ti104 := ⟨by kernel_rfl, by kernel_rfl, by kernel_rfl, by kernel_rfl, by kernel_rfl, by kernel_rfl, by kernel_rfl, by kernel_rfl, trivial, fun h => by cases h⟩
theorem tis_ok : CtxTI Tryz.prog CT := look_all (l := tis) (all_cons tiok2 (all_cons tiok3 (all_cons tiok4 (all_cons tiok5 (all_cons tiok9 (all_cons tiok23 (all_cons tiok25 (all_cons tiok30 (all_cons tiok35 (all_cons tiok59 (all_cons tiok63 (all_cons tiok89 (all_cons tiok90 (all_cons tiok104 all_nil))))))))))))))
def FnOk (f : Nat) (fn : Func) : Prop := Tryz.prog.funcs[f]? = some fn ∧ fn.body.isSome = true ∧ (fn.name == "runtime.NumGoroutine") = false
def ParOk (i : Nat) (fn : Func) : Prop := ((look ptsL i).getD []).length ≤ fn.ntmps
theorem fnok9 : FnOk 9 Tryz.f9 := ⟨Tryz.func9, by kernel_rfl, by kernel_rfl⟩
theorem parok9 : ParOk 9 Tryz.f9 := Nat.le_of_ble_eq_true (by kernel_rfl)
theorem fnok96 : FnOk 96 Tryz.f96 := ⟨Tryz.func96, by kernel_rfl, by kernel_rfl⟩
theorem parok96 : ParOk 96 Tryz.f96 := Nat.le_of_ble_eq_true (by kernel_rfl)
theorem fnok3 : FnOk 3 Tryz.f3 := ⟨Tryz.func3, by kernel_rfl, by kernel_rfl⟩
theorem parok3 : ParOk 3 Tryz.f3 := Nat.le_of_ble_eq_true (by kernel_rfl)
theorem fnok4 : FnOk 4 Tryz.f4 := ⟨Tryz.func4, by kernel_rfl, by kernel_rfl⟩
theorem parok4 : ParOk 4 Tryz.f4 := Nat.le_of_ble_eq_true (by kernel_rfl)
theorem fnok5 : FnOk 5 Tryz.f5 := ⟨Tryz.func5, by kernel_rfl, by kernel_rfl⟩
theorem parok5 : ParOk 5 Tryz.f5 := Nat.le_of_ble_eq_true (by kernel_rfl)
theorem fnok6 : FnOk 6 Tryz.f6 := ⟨Tryz.func6, by kernel_rfl, by kernel_rfl⟩
theorem parok6 : ParOk 6 Tryz.f6 := Nat.le_of_ble_eq_true (by kernel_rfl)
theorem fnok7 : FnOk 7 Tryz.f7 := ⟨Tryz.func7, by kernel_rfl, by kernel_rfl⟩
theorem parok7 : ParOk 7 Tryz.f7 := Nat.le_of_ble_eq_true (by kernel_rfl)
theorem fnok8 : FnOk 8 Tryz.f8 := ⟨Tryz.func8, by kernel_rfl, by kernel_rfl⟩
theorem parok8 : ParOk 8 Tryz.f8 := Nat.le_of_ble_eq_true (by kernel_rfl)
theorem fnok10 : FnOk 10 Tryz.f10 := ⟨Tryz.func10, by kernel_rfl, by kernel_rfl⟩
theorem parok10 : ParOk 10 Tryz.f10 := Nat.le_of_ble_eq_true (by kernel_rfl)
theorem fnok11 : FnOk 11 Tryz.f11 := ⟨Tryz.func11, by kernel_rfl, by kernel_rfl⟩
theorem parok11 : ParOk 11 Tryz.f11 := Nat.le_of_ble_eq_true (by kernel_rfl)
theorem fnok12 : FnOk 12 Tryz.f12 := ⟨Tryz.func12, by kernel_rfl, by kernel_rfl⟩
theorem parok12 : ParOk 12 Tryz.f12 := Nat.le_of_ble_eq_true (by kernel_rfl)
theorem fnok13 : FnOk 13 Tryz.f13 := ⟨Tryz.func13, by kernel_rfl, by kernel_rfl⟩
theorem parok13 : ParOk 13 Tryz.f13 := Nat.le_of_ble_eq_true (by kernel_rfl)
theorem fnok14 : FnOk 14 Tryz.f14 := ⟨Tryz.func14, by kernel_rfl, by kernel_rfl⟩
theorem parok14 : ParOk 14 Tryz.f14 := Nat.le_of_ble_eq_true (by kernel_rfl)
theorem fnok15 : FnOk 15 Tryz.f15 := ⟨Tryz.func15, by kernel_rfl, by kernel_rfl⟩
theorem parok15 : ParOk 15 Tryz.f15 := Nat.le_of_ble_eq_true (by kernel_rfl)
theorem fnok16 : FnOk 16 Tryz.f16 := ⟨Tryz.func16, by kernel_rfl, by kernel_rfl⟩
theorem parok16 : ParOk 16 Tryz.f16 := Nat.le_of_ble_eq_true (by kernel_rfl)
theorem fnok17 : FnOk 17 Tryz.f17 := ⟨Tryz.func17, by kernel_rfl, by kernel_rfl⟩
theorem parok17 : ParOk 17 Tryz.f17 := Nat.le_of_ble_eq_true (by kernel_rfl)
theorem fnok18 : FnOk 18 Tryz.f18 := ⟨Tryz.func18, by kernel_rfl, by kernel_rfl⟩
theorem parok18 : ParOk 18 Tryz.f18 := Nat.le_of_ble_eq_true (by kernel_rfl)
theorem fnok19 : FnOk 19 Tryz.f19 := ⟨Tryz.func19, by kernel_rfl, by kernel_rfl⟩
theorem parok19 : ParOk 19 Tryz.f19 := Nat.le_of_ble_eq_true (by kernel_rfl)
theorem fnok20 : FnOk 20 Tryz.f20 := ⟨Tryz.func20, by kernel_rfl, by kernel_rfl⟩
theorem parok20 : ParOk 20 Tryz.f20 := Nat.le_of_ble_eq_true (by kernel_rfl)
theorem fnok21 : FnOk 21 Tryz.f21 := ⟨Tryz.func21, by kernel_rfl, by kernel_rfl⟩
theorem parok21 : ParOk 21 Tryz.f21 := Nat.le_of_ble_eq_true (by kernel_rfl)
theorem fnok22 : FnOk 22 Tryz.f22 := ⟨Tryz.func22, by kernel_rfl, by kernel_rfl⟩
theorem parok22 : ParOk 22 Tryz.f22 := Nat.le_of_ble_eq_true (by kernel_rfl)
theorem fnok23 : FnOk 23 Tryz.f23 := ⟨Tryz.func23, by kernel_rfl, by kernel_rfl⟩
theorem parok23 : ParOk 23 Tryz.f23 := Nat.le_of_ble_eq_true (by kernel_rfl)
theorem fnok24 : FnOk 24 Tryz.f24 := ⟨Tryz.func24, by kernel_rfl, by kernel_rfl⟩
theorem parok24 : ParOk 24 Tryz.f24 := Nat.le_of_ble_eq_true (by kernel_rfl)
theorem fnok25 : FnOk 25 Tryz.f25 := ⟨Tryz.func25, by kernel_rfl, by kernel_rfl⟩
theorem parok25 : ParOk 25 Tryz.f25 := Nat.le_of_ble_eq_true (by kernel_rfl)
theorem fnok26 : FnOk 26 Tryz.f26 := ⟨Tryz.func26, by kernel_rfl, by kernel_rfl⟩
theorem parok26 : ParOk 26 Tryz.f26 := Nat.le_of_ble_eq_true (by kernel_rfl)
theorem fnok27 : FnOk 27 Tryz.f27 := ⟨Tryz.func27, by kernel_rfl, by kernel_rfl⟩
theorem parok27 : ParOk 27 Tryz.f27 := Nat.le_of_ble_eq_true (by kernel_rfl)
theorem fnok28 : FnOk 28 Tryz.f28 := ⟨Tryz.func28, by kernel_rfl, by kernel_rfl⟩
theorem parok28 : ParOk 28 Tryz.f28 := Nat.le_of_ble_eq_true (by kernel_rfl)
theorem fnok29 : FnOk 29 Tryz.f29 := ⟨Tryz.func29, by kernel_rfl, by kernel_rfl⟩
theorem parok29 : ParOk 29 Tryz.f29 := Nat.le_of_ble_eq_true (by kernel_rfl)
theorem fnok30 : FnOk 30 Tryz.f30 := ⟨Tryz.func30, by kernel_rfl, by kernel_rfl⟩
theorem parok30 : ParOk 30 Tryz.f30 := Nat.le_of_ble_eq_true (by kernel_rfl)
theorem fnok31 : FnOk 31 Tryz.f31 := ⟨Tryz.func31, by kernel_rfl, by kernel_rfl⟩
theorem parok31 : ParOk 31 Tryz.f31 := Nat.le_of_ble_eq_true (by kernel_rfl)
theorem fnok32 : FnOk 32 Tryz.f32 := ⟨Tryz.func32, by kernel_rfl, by kernel_rfl⟩
theorem parok32 : ParOk 32 Tryz.f32 := Nat.le_of_ble_eq_true (by kernel_rfl)
theorem fnok33 : FnOk 33 Tryz.f33 := ⟨Tryz.func33, by kernel_rfl, by kernel_rfl⟩
theorem parok33 : ParOk 33 Tryz.f33 := Nat.le_of_ble_eq_true (by kernel_rfl)
theorem fnok34 : FnOk 34 Tryz.f34 := ⟨Tryz.func34, by kernel_rfl, by kernel_rfl⟩
theorem parok34 : ParOk 34 Tryz.f34 := Nat.le_of_ble_eq_true (by kernel_rfl)
theorem fnok35 : FnOk 35 Tryz.f35 := ⟨Tryz.func35, by kernel_rfl, by kernel_rfl⟩
theorem parok35 : ParOk 35 Tryz.f35 := Nat.le_of_ble_eq_true (by kernel_rfl)
theorem fnok36 : FnOk 36 Tryz.f36 := ⟨Tryz.func36, by kernel_rfl, by kernel_rfl⟩
theorem parok36 : ParOk 36 Tryz.f36 := Nat.le_of_ble_eq_true (by kernel_rfl)
theorem fnok37 : FnOk 37 Tryz.f37 := ⟨Tryz.func37, by kernel_rfl, by kernel_rfl⟩
theorem parok37 : ParOk 37 Tryz.f37 := Nat.le_of_ble_eq_true (by kernel_rfl)
theorem fnok38 : FnOk 38 Tryz.f38 := ⟨Tryz.func38, by kernel_rfl, by kernel_rfl⟩
theorem parok38 : ParOk 38 Tryz.f38 := Nat.le_of_ble_eq_true (by kernel_rfl)
theorem fnok39 : FnOk 39 Tryz.f39 := ⟨Tryz.func39, by kernel_rfl, by kernel_rfl⟩
theorem parok39 : ParOk 39 Tryz.f39 := Nat.le_of_ble_eq_true (by kernel_rfl)
theorem fnok40 : FnOk 40 Tryz.f40 := ⟨Tryz.func40, by kernel_rfl, by kernel_rfl⟩
theorem parok40 : ParOk 40 Tryz.f40 := Nat.le_of_ble_eq_true (by kernel_rfl)
theorem fnok41 : FnOk 41 Tryz.f41 := ⟨Tryz.func41, by kernel_rfl, by kernel_rfl⟩
theorem parok41 : ParOk 41 Tryz.f41 := Nat.le_of_ble_eq_true (by kernel_rfl)
theorem fnok42 : FnOk 42 Tryz.f42 := ⟨Tryz.func42, by kernel_rfl, by kernel_rfl⟩
theorem parok42 : ParOk 42 Tryz.f42 := Nat.le_of_ble_eq_true (by kernel_rfl)
theorem fnok43 : FnOk 43 Tryz.f43 := ⟨Tryz.func43, by kernel_rfl, by kernel_rfl⟩
theorem parok43 : ParOk 43 Tryz.f43 := Nat.le_of_ble_eq_true (by kernel_rfl)
theorem fnok44 : FnOk 44 Tryz.f44 := ⟨Tryz.func44, by kernel_rfl, by kernel_rfl⟩
theorem parok44 : ParOk 44 Tryz.f44 := Nat.le_of_ble_eq_true (by kernel_rfl)
theorem fnok45 : FnOk 45 Tryz.f45 := ⟨Tryz.func45, by kernel_rfl, by kernel_rfl⟩
theorem parok45 : ParOk 45 Tryz.f45 := Nat.le_of_ble_eq_true (by kernel_rfl)
theorem fnok46 : FnOk 46 Tryz.f46 := ⟨Tryz.func46, by kernel_rfl, by kernel_rfl⟩
theorem parok46 : ParOk 46 Tryz.f46 := Nat.le_of_ble_eq_true (by kernel_rfl)
theorem fnok47 : FnOk 47 Tryz.f47 := ⟨Tryz.func47, by kernel_rfl, by kernel_rfl⟩
theorem parok47 : ParOk 47 Tryz.f47 := Nat.le_of_ble_eq_true (by kernel_rfl)
theorem fnok48 : FnOk 48 Tryz.f48 := ⟨Tryz.func48, by kernel_rfl, by kernel_rfl⟩
theorem parok48 : ParOk 48 Tryz.f48 := Nat.le_of_ble_eq_true (by kernel_rfl)
theorem fnok49 : FnOk 49 Tryz.f49 := ⟨Tryz.func49, by kernel_rfl, by kernel_rfl⟩
theorem parok49 : ParOk 49 Tryz.f49 := Nat.le_of_ble_eq_true (by kernel_rfl)
theorem fnok50 : FnOk 50 Tryz.f50 := ⟨Tryz.func50, by kernel_rfl, by kernel_rfl⟩
theorem parok50 : ParOk 50 Tryz.f50 := Nat.le_of_ble_eq_true (by kernel_rfl)
theorem fnok51 : FnOk 51 Tryz.f51 := ⟨Tryz.func51, by kernel_rfl, by kernel_rfl⟩
theorem parok51 : ParOk 51 Tryz.f51 := Nat.le_of_ble_eq_true (by kernel_rfl)
theorem fnok52 : FnOk 52 Tryz.f52 := ⟨Tryz.func52, by kernel_rfl, by kernel_rfl⟩
theorem parok52 : ParOk 52 Tryz.f52 := Nat.le_of_ble_eq_true (by kernel_rfl)
theorem fnok53 : FnOk 53 Tryz.f53 := ⟨Tryz.func53, by kernel_rfl, by kernel_rfl⟩
theorem parok53 : ParOk 53 Tryz.f53 := Nat.le_of_ble_eq_true (by kernel_rfl)
theorem fnok54 : FnOk 54 Tryz.f54 := ⟨Tryz.func54, by kernel_rfl, by kernel_rfl⟩
theorem parok54 : ParOk 54 Tryz.f54 := Nat.le_of_ble_eq_true (by kernel_rfl)
theorem fnok55 : FnOk 55 Tryz.f55 := ⟨Tryz.func55, by kernel_rfl, by kernel_rfl⟩
theorem parok55 : ParOk 55 Tryz.f55 := Nat.le_of_ble_eq_true (by kernel_rfl)
theorem fnok56 : FnOk 56 Tryz.f56 := ⟨Tryz.func56, by kernel_rfl, by kernel_rfl⟩
theorem parok56 : ParOk 56 Tryz.f56 := Nat.le_of_ble_eq_true (by kernel_rfl)
theorem fnok57 : FnOk 57 Tryz.f57 := ⟨Tryz.func57, by kernel_rfl, by kernel_rfl⟩
theorem parok57 : ParOk 57 Tryz.f57 := Nat.le_of_ble_eq_true (by kernel_rfl)
theorem fnok58 : FnOk 58 Tryz.f58 := ⟨Tryz.func58, by kernel_rfl, by kernel_rfl⟩
theorem parok58 : ParOk 58 Tryz.f58 := Nat.le_of_ble_eq_true (by kernel_rfl)
theorem fnok59 : FnOk 59 Tryz.f59 := ⟨Tryz.func59, by kernel_rfl, by kernel_rfl⟩
theorem parok59 : ParOk 59 Tryz.f59 := Nat.le_of_ble_eq_true (by kernel_rfl)
theorem fnok60 : FnOk 60 Tryz.f60 := ⟨Tryz.func60, by kernel_rfl, by kernel_rfl⟩
theorem parok60 : ParOk 60 Tryz.f60 := Nat.le_of_ble_eq_true (by kernel_rfl)
theorem fnok61 : FnOk 61 Tryz.f61 := ⟨Tryz.func61, by kernel_rfl, by kernel_rfl⟩
theorem parok61 : ParOk 61 Tryz.f61 := Nat.le_of_ble_eq_true (by kernel_rfl)
theorem fnok62 : FnOk 62 Tryz.f62 := ⟨Tryz.func62, by kernel_rfl, by kernel_rfl⟩
theorem parok62 : ParOk 62 Tryz.f62 := Nat.le_of_ble_eq_true (by kernel_rfl)
theorem fnok63 : FnOk 63 Tryz.f63 := ⟨Tryz.func63, by kernel_rfl, by kernel_rfl⟩
theorem parok63 : ParOk 63 Tryz.f63 := Nat.le_of_ble_eq_true (by kernel_rfl)
theorem fnok64 : FnOk 64 Tryz.f64 := ⟨Tryz.func64, by kernel_rfl, by kernel_rfl⟩
theorem parok64 : ParOk 64 Tryz.f64 := Nat.le_of_ble_eq_true (by kernel_rfl)
theorem fnok65 : FnOk 65 Tryz.f65 := ⟨Tryz.func65, by kernel_rfl, by kernel_rfl⟩
theorem parok65 : ParOk 65 Tryz.f65 := Nat.le_of_ble_eq_true (by kernel_rfl)
theorem fnok66 : FnOk 66 Tryz.f66 := ⟨Tryz.func66, by kernel_rfl, by kernel_rfl⟩
theorem parok66 : ParOk 66 Tryz.f66 := Nat.le_of_ble_eq_true (by kernel_rfl)
theorem fnok67 : FnOk 67 Tryz.f67 := ⟨Tryz.func67, by kernel_rfl, by kernel_rfl⟩
theorem parok67 : ParOk 67 Tryz.f67 := Nat.le_of_ble_eq_true (by kernel_rfl)
theorem fnok68 : FnOk 68 Tryz.f68 := ⟨Tryz.func68, by kernel_rfl, by kernel_rfl⟩
theorem parok68 : ParOk 68 Tryz.f68 := Nat.le_of_ble_eq_true (by kernel_rfl)
theorem fnok69 : FnOk 69 Tryz.f69 := ⟨Tryz.func69, by kernel_rfl, by kernel_rfl⟩
theorem parok69 : ParOk 69 Tryz.f69 := Nat.le_of_ble_eq_true (by kernel_rfl)
theorem fnok70 : FnOk 70 Tryz.f70 := ⟨Tryz.func70, by kernel_rfl, by kernel_rfl⟩
theorem parok70 : ParOk 70 Tryz.f70 := Nat.le_of_ble_eq_true (by kernel_rfl)
theorem fnok71 : FnOk 71 Tryz.f71 := ⟨Tryz.func71, by kernel_rfl, by kernel_rfl⟩
theorem parok71 : ParOk 71 Tryz.f71 := Nat.le_of_ble_eq_true (by kernel_rfl)
theorem fnok72 : FnOk 72 Tryz.f72 := ⟨Tryz.func72, by kernel_rfl, by kernel_rfl⟩
theorem parok72 : ParOk 72 Tryz.f72 := Nat.le_of_ble_eq_true (by kernel_rfl)
theorem fnok73 : FnOk 73 Tryz.f73 := ⟨Tryz.func73, by kernel_rfl, by kernel_rfl⟩
theorem parok73 : ParOk 73 Tryz.f73 := Nat.le_of_ble_eq_true (by kernel_rfl)
theorem fnok74 : FnOk 74 Tryz.f74 := ⟨Tryz.func74, by kernel_rfl, by kernel_rfl⟩
theorem parok74 : ParOk 74 Tryz.f74 := Nat.le_of_ble_eq_true (by kernel_rfl)
theorem fnok75 : FnOk 75 Tryz.f75 := ⟨Tryz.func75, by kernel_rfl, by kernel_rfl⟩
theorem parok75 : ParOk 75 Tryz.f75 := Nat.le_of_ble_eq_true (by kernel_rfl)
theorem fnok76 : FnOk 76 Tryz.f76 := ⟨Tryz.func76, by kernel_rfl, by kernel_rfl⟩
theorem parok76 : ParOk 76 Tryz.f76 := Nat.le_of_ble_eq_true (by kernel_rfl)
theorem fnok77 : FnOk 77 Tryz.f77 := ⟨Tryz.func77, by kernel_rfl, by kernel_rfl⟩
theorem parok77 : ParOk 77 Tryz.f77 := Nat.le_of_ble_eq_true (by kernel_rfl)
theorem fnok78 : FnOk 78 Tryz.f78 := ⟨Tryz.func78, by kernel_rfl, by kernel_rfl⟩
theorem parok78 : ParOk 78 Tryz.f78 := Nat.le_of_ble_eq_true (by kernel_rfl)
theorem fnok81 : FnOk 81 Tryz.f81 := ⟨Tryz.func81, by kernel_rfl, by kernel_rfl⟩
theorem parok81 : ParOk 81 Tryz.f81 := Nat.le_of_ble_eq_true (by kernel_rfl)
theorem fnok82 : FnOk 82 Tryz.f82 := ⟨Tryz.func82, by kernel_rfl, by kernel_rfl⟩
theorem parok82 : ParOk 82 Tryz.f82 := Nat.le_of_ble_eq_true (by kernel_rfl)
theorem fnok83 : FnOk 83 Tryz.f83 := ⟨Tryz.func83, by kernel_rfl, by kernel_rfl⟩
theorem parok83 : ParOk 83 Tryz.f83 := Nat.le_of_ble_eq_true (by kernel_rfl)
theorem fnok84 : FnOk 84 Tryz.f84 := ⟨Tryz.func84, by kernel_rfl, by kernel_rfl⟩
theorem parok84 : ParOk 84 Tryz.f84 := Nat.le_of_ble_eq_true (by kernel_rfl)
theorem fnok85 : FnOk 85 Tryz.f85 := ⟨Tryz.func85, by kernel_rfl, by kernel_rfl⟩
theorem parok85 : ParOk 85 Tryz.f85 := Nat.le_of_ble_eq_true (by kernel_rfl)
theorem fnok86 : FnOk 86 Tryz.f86 := ⟨Tryz.func86, by kernel_rfl, by kernel_rfl⟩
theorem parok86 : ParOk 86 Tryz.f86 := Nat.le_of_ble_eq_true (by kernel_rfl)
theorem fnok87 : FnOk 87 Tryz.f87 := ⟨Tryz.func87, by kernel_rfl, by kernel_rfl⟩
theorem parok87 : ParOk 87 Tryz.f87 := Nat.le_of_ble_eq_true (by kernel_rfl)
theorem fnok90 : FnOk 90 Tryz.f90 := ⟨Tryz.func90, by kernel_rfl, by kernel_rfl⟩
theorem parok90 : ParOk 90 Tryz.f90 := Nat.le_of_ble_eq_true (by kernel_rfl)
theorem fnok92 : FnOk 92 Tryz.f92 := ⟨Tryz.func92, by kernel_rfl, by kernel_rfl⟩
theorem parok92 : ParOk 92 Tryz.f92 := Nat.le_of_ble_eq_true (by kernel_rfl)
theorem fnok93 : FnOk 93 Tryz.f93 := ⟨Tryz.func93, by kernel_rfl, by kernel_rfl⟩
theorem parok93 : ParOk 93 Tryz.f93 := Nat.le_of_ble_eq_true (by kernel_rfl)
theorem fnok94 : FnOk 94 Tryz.f94 := ⟨Tryz.func94, by kernel_rfl, by kernel_rfl⟩
theorem parok94 : ParOk 94 Tryz.f94 := Nat.le_of_ble_eq_true (by kernel_rfl)
theorem fnok95 : FnOk 95 Tryz.f95 := ⟨Tryz.func95, by kernel_rfl, by kernel_rfl⟩
theorem parok95 : ParOk 95 Tryz.f95 := Nat.le_of_ble_eq_true (by kernel_rfl)
theorem fnok97 : FnOk 97 Tryz.f97 := ⟨Tryz.func97, by kernel_rfl, by kernel_rfl⟩
theorem parok97 : ParOk 97 Tryz.f97 := Nat.le_of_ble_eq_true (by kernel_rfl)
theorem fnok98 : FnOk 98 Tryz.f98 := ⟨Tryz.func98, by kernel_rfl, by kernel_rfl⟩
theorem parok98 : ParOk 98 Tryz.f98 := Nat.le_of_ble_eq_true (by kernel_rfl)
theorem fnok105 : FnOk 105 Tryz.f105 := ⟨Tryz.func105, by kernel_rfl, by kernel_rfl⟩
theorem parok105 : ParOk 105 Tryz.f105 := Nat.le_of_ble_eq_true (by kernel_rfl)
theorem fnok107 : FnOk 107 Tryz.f107 := ⟨Tryz.func107, by kernel_rfl, by kernel_rfl⟩
theorem parok107 : ParOk 107 Tryz.f107 := Nat.le_of_ble_eq_true (by kernel_rfl)
theorem fnok109 : FnOk 109 Tryz.f109 := ⟨Tryz.func109, by kernel_rfl, by kernel_rfl⟩
theorem parok109 : ParOk 109 Tryz.f109 := Nat.le_of_ble_eq_true (by kernel_rfl)
theorem fnok110 : FnOk 110 Tryz.f110 := ⟨Tryz.func110, by kernel_rfl, by kernel_rfl⟩
theorem parok110 : ParOk 110 Tryz.f110 := Nat.le_of_ble_eq_true (by kernel_rfl)
theorem fnok111 : FnOk 111 Tryz.f111 := ⟨Tryz.func111, by kernel_rfl, by kernel_rfl⟩
theorem parok111 : ParOk 111 Tryz.f111 := Nat.le_of_ble_eq_true (by kernel_rfl)
theorem fns_ok : ∀ f fn, look fns f = some fn → FnOk f fn := look_all (Q := FnOk) (l := fns) (all_cons fnok3 (all_cons fnok4 (all_cons fnok5 (all_cons fnok6 (all_cons fnok7 (all_cons fnok8 (all_cons fnok10 (all_cons fnok11 (all_cons fnok12 (all_cons fnok13 (all_cons fnok14 (all_cons fnok15 (all_cons fnok16 (all_cons fnok17 (all_cons fnok18 (all_cons fnok19 (all_cons fnok20 (all_cons fnok21 (all_cons fnok22 (all_cons fnok23 (all_cons fnok24 (all_cons fnok25 (all_cons fnok26 (all_cons fnok27 (all_cons fnok28 (all_cons fnok29 (all_cons fnok30 (all_cons fnok31 (all_cons fnok32 (all_cons fnok33 (all_cons fnok34 (all_cons fnok35 (all_cons fnok36 (all_cons fnok37 (all_cons fnok38 (all_cons fnok39 (all_cons fnok40 (all_cons fnok41 (all_cons fnok42 (all_cons fnok43 (all_cons fnok44 (all_cons fnok45 (all_cons fnok46 (all_cons fnok47 (all_cons fnok48 (all_cons fnok49 (all_cons fnok50 (all_cons fnok51 (all_cons fnok52 (all_cons fnok53 (all_cons fnok54 (all_cons fnok55 (all_cons fnok56 (all_cons fnok57 (all_cons fnok58 (all_cons fnok59 (all_cons fnok60 (all_cons fnok61 (all_cons fnok62 (all_cons fnok63 (all_cons fnok64 (all_cons fnok65 (all_cons fnok66 (all_cons fnok67 (all_cons fnok68 (all_cons fnok69 (all_cons fnok70 (all_cons fnok71 (all_cons fnok72 (all_cons fnok73 (all_cons fnok74 (all_cons fnok75 (all_cons fnok76 (all_cons fnok77 (all_cons fnok78 (all_cons fnok81 (all_cons fnok82 (all_cons fnok83 (all_cons fnok84 (all_cons fnok85 (all_cons fnok86 (all_cons fnok87 (all_cons fnok90 (all_cons fnok92 (all_cons fnok93 (all_cons fnok94 (all_cons fnok95 (all_cons fnok97 (all_cons fnok98 (all_cons fnok105 (all_cons fnok107 (all_cons fnok109 (all_cons fnok110 (all_cons fnok111 (all_cons fnok9 (all_cons fnok96 all_nil))))))))))))))))))))))))))))))))))))))))))))))))))))))))))))))))))))))))))))))))))))))))))))))))
theorem ctx_ok : CtxOk Tryz.prog CT := ⟨tis_ok, fns_ok, by kernel_rfl, inv_keeps⟩
theorem pars_ok : ∀ i fn, look fns i = some fn → ParOk i fn := look_all (Q := ParOk) (l := fns) (all_cons parok3 (all_cons parok4 (all_cons parok5 (all_cons parok6 (all_cons parok7 (all_cons parok8 (all_cons parok10 (all_cons parok11 (all_cons parok12 (all_cons parok13 (all_cons parok14 (all_cons parok15 (all_cons parok16 (all_cons parok17 (all_cons parok18 (all_cons parok19 (all_cons parok20 (all_cons parok21 (all_cons parok22 (all_cons parok23 (all_cons parok24 (all_cons parok25 (all_cons parok26 (all_cons parok27 (all_cons parok28 (all_cons parok29 (all_cons parok30 (all_cons parok31 (all_cons parok32 (all_cons parok33 (all_cons parok34 (all_cons parok35 (all_cons parok36 (all_cons parok37 (all_cons parok38 (all_cons parok39 (all_cons parok40 (all_cons parok41 (all_cons parok42 (all_cons parok43 (all_cons parok44 (all_cons parok45 (all_cons parok46 (all_cons parok47 (all_cons parok48 (all_cons parok49 (all_cons parok50 (all_cons parok51 (all_cons parok52 (all_cons parok53 (all_cons parok54 (all_cons parok55 (all_cons parok56 (all_cons parok57 (all_cons parok58 (all_cons parok59 (all_cons parok60 (all_cons parok61 (all_cons parok62 (all_cons parok63 (all_cons parok64 (all_cons parok65 (all_cons parok66 (all_cons parok67 (all_cons parok68 (all_cons parok69 (all_cons parok70 (all_cons parok71 (all_cons parok72 (all_cons parok73 (all_cons parok74 (all_cons parok75 (all_cons parok76 (all_cons parok77 (all_cons parok78 (all_cons parok81 (all_cons parok82 (all_cons parok83 (all_cons parok84 (all_cons parok85 (all_cons parok86 (all_cons parok87 (all_cons parok90 (all_cons parok92 (all_cons parok93 (all_cons parok94 (all_cons parok95 (all_cons parok97 (all_cons parok98 (all_cons parok105 (all_cons parok107 (all_cons parok109 (all_cons parok110 (all_cons parok111 (all_cons parok9 (all_cons parok96 all_nil))))))))))))))))))))))))))))))))))))))))))))))))))))))))))))))))))))))))))))))))))))))))))))))))
theorem sound (hE : ExtOk Tryz.prog CT) : ∀ k, SpecOk Tryz.prog (sem CT k) ∧ StageOk Tryz.prog (sem CT k) := sem_sound ctx_ok hE pars_ok
theorem ext_ok : ExtOk Tryz.prog CT := ext_of (l := extL) rfl (allE_cons (ext_at (Q.cmp_ok inv_max)) (allE_cons (ext_at (Q.rcmp_ok inv_max)) (allE_cons (ext_at (Q.rmul_ok inv_max)) (allE_cons (ext_at (cut_ok inv_max)) (allE_cons (ext_at (Q.gcd_ok inv_max)) (allE_cons (ext_at (Q.of_ok inv_max)) (allE_cons (ext_at (Q.mul_ok inv_max)) (allE_cons (ext_at (Q.rtrim_ok inv_max)) (allE_cons (ext_at (Q.rgcd_ok inv_max)) (allE_cons (ext_at (Q.rbits_ok inv_max)) (allE_cons (ext_at (Q.rof_ok inv_max)) (allE_cons (ext_at (Q.trim_ok inv_max)) (allE_cons (ext_at (Q.div_ok inv_max)) (allE_cons (ext_at (Q.rdiv_ok inv_max)) (allE_cons (ext_at (Q.add_ok inv_max)) (allE_cons (ext_at (Q.pow_ok inv_max)) allE_nil))))))))))))))))
theorem spec_ok (k : Nat) : SpecOk Tryz.prog (sem CT k) := (sound ext_ok k).1
end Go.Proofs.YtodfaihlddiokaaGreatDoor.K

/- The machine at this seat: its equations. -/
set_option linter.unusedVariables false
set_option maxRecDepth 100000
namespace Go.Proofs.YtodfaihlddiokaaGreatDoor.K
open Go
theorem abacistlaw09_CoerceCmp_eq (x0 : Int × (Bool × List UInt8 × List UInt8) × List UInt8 × Bool × Int) (x1 : Int × (Bool × List UInt8 × List UInt8) × List UInt8 × Bool × Int) (x2 : Int × (Bool × List UInt8 × List UInt8) × List UInt8 × Bool × Int) : abacistlaw09_CoerceCmp x0 x1 x2 = (coerce_Cmp x0 x1).bind fun v1 => (abacistref09_Cmp x0 x1).bind fun v2 => (coerce_Cmp x1 x0).bind fun v3 => cond (!decide (v1.1 = v2.1)) (abacistlaw09_CoerceCmp_1 v1.1 v1.2 true x0 x1 x2) (cond (!decide (v1.2 = v2.2)) (abacistlaw09_CoerceCmp_1 v1.1 v1.2 true x0 x1 x2) (cond (decide (v1.2 = 0)) (cond (!decide (v3.2 = 0)) (abacistlaw09_CoerceCmp_1 v1.1 v1.2 true x0 x1 x2) (cond (!decide (v3.1 = (IntKind.i64.wrap (0 - v1.1)))) (abacistlaw09_CoerceCmp_1 v1.1 v1.2 true x0 x1 x2) ((coerce_First [x0, x1, x2]).bind fun v4 => (abacistref09_First [x0, x1, x2]).bind fun v5 => abacistlaw09_CoerceCmp_1 v1.1 v1.2 (!decide (v4 = v5)) x0 x1 x2))) ((coerce_First [x0, x1, x2]).bind fun v6 => (abacistref09_First [x0, x1, x2]).bind fun v7 => abacistlaw09_CoerceCmp_1 v1.1 v1.2 (!decide (v6 = v7)) x0 x1 x2))) := (top_call ..).trans (by kernel_rfl)
theorem abacistlaw09_CoerceCmp_1_eq (a1 : Int) (a2 : Int) (a3 : Bool) (a4 : Int × (Bool × List UInt8 × List UInt8) × List UInt8 × Bool × Int) (a5 : Int × (Bool × List UInt8 × List UInt8) × List UInt8 × Bool × Int) (a6 : Int × (Bool × List UInt8 × List UInt8) × List UInt8 × Bool × Int) : abacistlaw09_CoerceCmp_1 a1 a2 a3 a4 a5 a6 = cond a3 (some false) ((coerce_Cmp a5 a6).bind fun v1 => (coerce_Cmp a4 a6).bind fun v2 => cond (!decide (a4.1 = 0)) (cond (!decide (a5.1 = 0)) (cond (!decide (a6.1 = 0)) (cond (decide (a2 = 0)) (cond (decide (v1.2 = 0)) (abacistlaw09_CoerceCmp_2 a1 v1.1 v2.1 (decide (v2.2 = 0))) (abacistlaw09_CoerceCmp_2 a1 v1.1 v2.1 false)) (abacistlaw09_CoerceCmp_2 a1 v1.1 v2.1 false)) (abacistlaw09_CoerceCmp_2 a1 v1.1 v2.1 false)) (abacistlaw09_CoerceCmp_2 a1 v1.1 v2.1 false)) (abacistlaw09_CoerceCmp_2 a1 v1.1 v2.1 false)) := (top_stage ..).trans (by kernel_rfl)
theorem abacistlaw09_CoerceCmp_2_eq (a1 : Int) (a2 : Int) (a3 : Int) (a4 : Bool) : abacistlaw09_CoerceCmp_2 a1 a2 a3 a4 = cond (!a4) ((abacistlaw09_known).bind fun v1 => some v1) (cond (decide (a1 > 0)) ((abacistlaw09_known).bind fun v2 => some v2) (cond (decide (a2 > 0)) ((abacistlaw09_known).bind fun v3 => some v3) (cond (decide (a3 ≤ 0)) ((abacistlaw09_known).bind fun v4 => some v4) (some false)))) := (top_stage ..).trans (by kernel_rfl)
theorem coerce_Cmp_eq (x0 : Int × (Bool × List UInt8 × List UInt8) × List UInt8 × Bool × Int) (x1 : Int × (Bool × List UInt8 × List UInt8) × List UInt8 × Bool × Int) : coerce_Cmp x0 x1 = coerce_Cmp_1 x0.1 x0.2.1.1 x0.2.1.2.1 x0.2.1.2.2 x0.2.2.1 x0.2.2.2.1 x0.2.2.2.2 x1.1 x1.2.1.1 x1.2.1.2.1 x1.2.1.2.2 x1.2.2.1 x1.2.2.2.1 x1.2.2.2.2 x0 x1 := (top_call ..).trans (by kernel_rfl)
theorem coerce_Cmp_1_eq (a1 : Int) (a2 : Bool) (a3 : List UInt8) (a4 : List UInt8) (a5 : List UInt8) (a6 : Bool) (a7 : Int) (a8 : Int) (a9 : Bool) (a10 : List UInt8) (a11 : List UInt8) (a12 : List UInt8) (a13 : Bool) (a14 : Int) (a15 : Int × (Bool × List UInt8 × List UInt8) × List UInt8 × Bool × Int) (a16 : Int × (Bool × List UInt8 × List UInt8) × List UInt8 × Bool × Int) : coerce_Cmp_1 a1 a2 a3 a4 a5 a6 a7 a8 a9 a10 a11 a12 a13 a14 a15 a16 = (coerce_cell_fault (a1, (a2, a3, a4), a5, a6, a7)).bind fun v1 => cond (!decide (v1 = 0)) (coerce_Cmp_2 v1 a15 a16) ((coerce_cell_fault (a8, (a9, a10, a11), a12, a13, a14)).bind fun v2 => coerce_Cmp_2 v2 a15 a16) := (top_stage ..).trans (by kernel_rfl)
theorem coerce_Cmp_2_eq (a1 : Int) (a2 : Int × (Bool × List UInt8 × List UInt8) × List UInt8 × Bool × Int) (a3 : Int × (Bool × List UInt8 × List UInt8) × List UInt8 × Bool × Int) : coerce_Cmp_2 a1 a2 a3 = cond (!decide (a1 = 0)) (some (0, a1)) ((coerce_like a2 a3.1).bind fun v1 => (coerce_like a3 a2.1).bind fun v2 => cond (!decide (v1.1 = v2.1)) ((cmp_Compare_int v1.1 v2.1).bind fun v3 => some (v3, 0)) (cond (decide (v1.1 = 1)) ((rat_Cmp v1.2.1 v2.2.1).bind fun v4 => some (v4, 0)) ((cmp_Compare_string v1.2.2.1 v2.2.2.1).bind fun v5 => (coerce_bit v1.2.2.2.1).bind fun v6 => (coerce_bit v2.2.2.2.1).bind fun v7 => (cmp_Compare_int64 v6 v7).bind fun v8 => (cmp_Or_int [v5, v8]).bind fun v9 => some (v9, 0)))) := (top_stage ..).trans (by kernel_rfl)
theorem abacistref09_Cmp_eq (x0 : Int × (Bool × List UInt8 × List UInt8) × List UInt8 × Bool × Int) (x1 : Int × (Bool × List UInt8 × List UInt8) × List UInt8 × Bool × Int) : abacistref09_Cmp x0 x1 = (abacistref09_fault x0).bind fun v1 => cond (!decide (v1 = 0)) ((abacistref09_fault x0).bind fun v2 => some (0, v2)) ((abacistref09_fault x1).bind fun v3 => cond (!decide (v3 = 0)) ((abacistref09_fault x1).bind fun v4 => some (0, v4)) ((abacistref09_like x0 x1).bind fun v5 => (abacistref09_like x1 x0).bind fun v6 => cond (!decide (v5.1 = v6.1)) ((abacistref09_order v5.1 v6.1).bind fun v7 => some (v7, 0)) (cond (decide (v5.1 = 1)) ((abacistref05_Cmp v5.2.1 v6.2.1).bind fun v8 => some (v8, 0)) (cond (decide (v5.1 = 2)) ((abacistref09_bytes v5.2.2.1 v6.2.2.1).bind fun v9 => some (v9, 0)) ((abacistref09_bit v5.2.2.2.1).bind fun v10 => (abacistref09_bit v6.2.2.2.1).bind fun v11 => (abacistref09_order v10 v11).bind fun v12 => some (v12, 0)))))) := (top_call ..).trans (by kernel_rfl)
theorem coerce_First_eq (x0 : List (Int × (Bool × List UInt8 × List UInt8) × List UInt8 × Bool × Int)) : coerce_First x0 = coerce_First_1 x0 (x0.length : Int) 0 := (top_call ..).trans (by kernel_rfl)
theorem coerce_First_1_eq (a1 : List (Int × (Bool × List UInt8 × List UInt8) × List UInt8 × Bool × Int)) (a2 : Int) (a3 : Int) : coerce_First_1 a1 a2 a3 = cond (decide (a3 < a2)) (cond (decide (0 ≤ a3) && decide (a3 < (a1.length : Int))) ((coerce_cell_fault (a1.getD a3.toNat (0, (false, [], []), [], false, 0))).bind fun v1 => cond (!decide (v1 = 0)) (some v1) (coerce_First_1 a1 a2 (IntKind.i64.wrap (a3 + 1)))) none) (some 0) := (top_stage ..).trans (by kernel_rfl)
theorem abacistref09_First_eq (x0 : List (Int × (Bool × List UInt8 × List UInt8) × List UInt8 × Bool × Int)) : abacistref09_First x0 = abacistref09_First_1 x0 0 := (top_call ..).trans (by kernel_rfl)
theorem abacistref09_First_1_eq (a1 : List (Int × (Bool × List UInt8 × List UInt8) × List UInt8 × Bool × Int)) (a2 : Int) : abacistref09_First_1 a1 a2 = cond (decide (a2 < (a1.length : Int))) (cond (decide (0 ≤ a2) && decide (a2 < (a1.length : Int))) ((abacistref09_fault (a1.getD a2.toNat (0, (false, [], []), [], false, 0))).bind fun v1 => cond (!decide (v1 = 0)) (cond (decide (0 ≤ a2) && decide (a2 < (a1.length : Int))) ((abacistref09_fault (a1.getD a2.toNat (0, (false, [], []), [], false, 0))).bind fun v2 => some v2) none) (abacistref09_First_1 a1 (IntKind.i64.wrap (a2 + 1)))) none) (some 0) := (top_stage ..).trans (by kernel_rfl)
theorem coerce_cell_fault_eq (x0 : Int × (Bool × List UInt8 × List UInt8) × List UInt8 × Bool × Int) : coerce_cell_fault x0 = (value_Right x0).bind fun v1 => cond (!v1) (some 2) (some x0.2.2.2.2) := (top_call ..).trans (by kernel_rfl)
theorem coerce_like_eq (x0 : Int × (Bool × List UInt8 × List UInt8) × List UInt8 × Bool × Int) (x1 : Int) : coerce_like x0 x1 = cond (!decide (x0.1 = 0)) (some x0) (cond (decide (x1 = 1)) ((rat_Of 0).bind fun v1 => (value_Num v1).bind fun v2 => some v2) (cond (decide (x1 = 2)) ((value_Text ([] : List UInt8)).bind fun v3 => some v3) (cond (decide (x1 = 3)) ((value_Truth false).bind fun v4 => some v4) (some x0)))) := (top_call ..).trans (by kernel_rfl)
theorem cmp_Compare_int_eq (x0 : Int) (x1 : Int) : cmp_Compare_int x0 x1 = (cmp_isNaN_int x0).bind fun v1 => (cmp_isNaN_int x1).bind fun v2 => cond v1 (cond v2 (some 0) (some (-1))) (cond v2 (some 1) (cond (decide (x0 < x1)) (some (-1)) (cond (decide (x0 > x1)) (some 1) (some 0)))) := (top_call ..).trans (by kernel_rfl)
theorem rat_Cmp_eq (x0 : Bool × List UInt8 × List UInt8) (x1 : Bool × List UInt8 × List UInt8) : rat_Cmp x0 x1 = (rat_well x0).bind fun v1 => (rat_well x1).bind fun v2 => (rat_crossed v1 v2).bind fun v3 => (whole_Cmp v3.1 v3.2).bind fun v4 => some v4 := (top_call ..).trans (by kernel_rfl)
theorem cmp_Compare_string_eq (x0 : List UInt8) (x1 : List UInt8) : cmp_Compare_string x0 x1 = (cmp_isNaN_string x0).bind fun v1 => (cmp_isNaN_string x1).bind fun v2 => cond v1 (cond v2 (some 0) (some (-1))) (cond v2 (some 1) (cond (Op.bytesLess x0 x1) (some (-1)) (cond (!(Op.bytesLess x0 x1 || decide (x0 = x1))) (some 1) (some 0)))) := (top_call ..).trans (by kernel_rfl)
theorem coerce_bit_eq (x0 : Bool) : coerce_bit x0 = cond x0 (some 1) (some 0) := (top_call ..).trans (by kernel_rfl)
theorem cmp_Compare_int64_eq (x0 : Int) (x1 : Int) : cmp_Compare_int64 x0 x1 = (cmp_isNaN_int64 x0).bind fun v1 => (cmp_isNaN_int64 x1).bind fun v2 => cond v1 (cond v2 (some 0) (some (-1))) (cond v2 (some 1) (cond (decide (x0 < x1)) (some (-1)) (cond (decide (x0 > x1)) (some 1) (some 0)))) := (top_call ..).trans (by kernel_rfl)
theorem cmp_Or_int_eq (x0 : List Int) : cmp_Or_int x0 = cmp_Or_int_1 0 x0 (x0.length : Int) 0 := (top_call ..).trans (by kernel_rfl)
theorem cmp_Or_int_1_eq (a1 : Int) (a2 : List Int) (a3 : Int) (a4 : Int) : cmp_Or_int_1 a1 a2 a3 a4 = cond (decide (a4 < a3)) (cond (decide (0 ≤ a4) && decide (a4 < (a2.length : Int))) (cond (!decide ((a2.getD a4.toNat 0) = a1)) (some (a2.getD a4.toNat 0)) (cmp_Or_int_1 a1 a2 a3 (IntKind.i64.wrap (a4 + 1)))) none) (some a1) := (top_stage ..).trans (by kernel_rfl)
theorem abacistref09_fault_eq (x0 : Int × (Bool × List UInt8 × List UInt8) × List UInt8 × Bool × Int) : abacistref09_fault x0 = (abacistref08_Right x0).bind fun v1 => cond (!v1) (some 2) (some x0.2.2.2.2) := (top_call ..).trans (by kernel_rfl)
theorem abacistref09_like_eq (x0 : Int × (Bool × List UInt8 × List UInt8) × List UInt8 × Bool × Int) (x1 : Int × (Bool × List UInt8 × List UInt8) × List UInt8 × Bool × Int) : abacistref09_like x0 x1 = cond (!decide (x0.1 = 0)) (some x0) (cond (decide (x1.1 = 1)) ((abacistref05_Of 0).bind fun v1 => (abacistref08_Num v1).bind fun v2 => some v2) (cond (decide (x1.1 = 2)) ((abacistref08_Text ([] : List UInt8)).bind fun v3 => some v3) (cond (decide (x1.1 = 3)) ((abacistref08_Truth false).bind fun v4 => some v4) (some x0)))) := (top_call ..).trans (by kernel_rfl)
theorem abacistref09_order_eq (x0 : Int) (x1 : Int) : abacistref09_order x0 x1 = cond (decide (x0 < x1)) (some (-1)) (cond (decide (x0 > x1)) (some 1) (some 0)) := (top_call ..).trans (by kernel_rfl)
theorem abacistref05_Cmp_eq (x0 : Bool × List UInt8 × List UInt8) (x1 : Bool × List UInt8 × List UInt8) : abacistref05_Cmp x0 x1 = (abacistref05_Top x0).bind fun v1 => (abacistref05_Low x1).bind fun v2 => (abacistref04_Mul v1 v2).bind fun v3 => (abacistref05_Top x1).bind fun v4 => (abacistref05_Low x0).bind fun v5 => (abacistref04_Mul v4 v5).bind fun v6 => (abacistref04_Cmp v3 v6).bind fun v7 => some v7 := (top_call ..).trans (by kernel_rfl)
theorem abacistref09_bytes_eq (x0 : List UInt8) (x1 : List UInt8) : abacistref09_bytes x0 x1 = abacistref09_bytes_1 x0 x1 0 := (top_call ..).trans (by kernel_rfl)
theorem abacistref09_bytes_1_eq (a1 : List UInt8) (a2 : List UInt8) (a3 : Int) : abacistref09_bytes_1 a1 a2 a3 = cond (decide (a3 < (a1.length : Int))) (abacistref09_bytes_2 a1 a2 a3 (decide (a3 < (a2.length : Int)))) (abacistref09_bytes_2 a1 a2 a3 false) := (top_stage ..).trans (by kernel_rfl)
theorem abacistref09_bytes_2_eq (a1 : List UInt8) (a2 : List UInt8) (a3 : Int) (a4 : Bool) : abacistref09_bytes_2 a1 a2 a3 a4 = cond a4 (cond (decide (0 ≤ a3) && decide (a3 < (a1.length : Int))) (cond (decide (0 ≤ a3) && decide (a3 < (a2.length : Int))) (cond (!decide (((a1.getD a3.toNat 0).toNat : Int) = ((a2.getD a3.toNat 0).toNat : Int))) (cond (decide (0 ≤ a3) && decide (a3 < (a1.length : Int))) (cond (decide (0 ≤ a3) && decide (a3 < (a2.length : Int))) ((abacistref09_order (IntKind.i64.wrap ((a1.getD a3.toNat 0).toNat : Int)) (IntKind.i64.wrap ((a2.getD a3.toNat 0).toNat : Int))).bind fun v1 => some v1) none) none) (abacistref09_bytes_1 a1 a2 (IntKind.i64.wrap (a3 + 1)))) none) none) ((abacistref09_order (a1.length : Int) (a2.length : Int)).bind fun v2 => some v2) := (top_stage ..).trans (by kernel_rfl)
theorem abacistref09_bit_eq (x0 : Bool) : abacistref09_bit x0 = cond x0 (some 1) (some 0) := (top_call ..).trans (by kernel_rfl)
theorem abacistref08_Text_eq (x0 : List UInt8) : abacistref08_Text x0 = (abacistref08_Plain x0).bind fun v1 => cond (!v1) ((abacistref08_Fault 2).bind fun v2 => some v2) (some (2, (false, [], []), x0, false, 0)) := (top_call ..).trans (by kernel_rfl)
theorem coerce_Num_eq (x0 : Int × (Bool × List UInt8 × List UInt8) × List UInt8 × Bool × Int) : coerce_Num x0 = (coerce_cell_fault x0).bind fun v1 => cond (!decide (v1 = 0)) (some ((false, [], []), v1)) (cond (decide (x0.1 = 1)) (some (x0.2.1, 0)) (cond (decide (x0.1 = 2)) ((numtext_Parse x0.2.2.1).bind fun v2 => cond (!decide (v2.2 = 0)) (some ((false, [], []), 2)) (some (v2.1, 0))) ((coerce_bit x0.2.2.2.1).bind fun v3 => (rat_Of v3).bind fun v4 => some (v4, 0)))) := (top_call ..).trans (by kernel_rfl)
theorem abacistref08_Fault_eq (x0 : Int) : abacistref08_Fault x0 = cond (decide (x0 < 1)) (abacistref08_Fault_1 x0 true (0, (false, [], []), [], false, 0)) (abacistref08_Fault_1 x0 (decide (x0 > 7)) (0, (false, [], []), [], false, 0)) := (top_call ..).trans (by kernel_rfl)
theorem abacistref08_Fault_1_eq (a1 : Int) (a2 : Bool) (a3 : Int × (Bool × List UInt8 × List UInt8) × List UInt8 × Bool × Int) : abacistref08_Fault_1 a1 a2 a3 = cond a2 (abacistref08_Fault_2 2 a3) (abacistref08_Fault_2 a1 a3) := (top_stage ..).trans (by kernel_rfl)
theorem abacistref08_Fault_2_eq (a1 : Int) (a2 : Int × (Bool × List UInt8 × List UInt8) × List UInt8 × Bool × Int) : abacistref08_Fault_2 a1 a2 = some (4, (false, [], []), [], false, a1) := (top_stage ..).trans (by kernel_rfl)
theorem coerce_Truth_eq (x0 : Int × (Bool × List UInt8 × List UInt8) × List UInt8 × Bool × Int) : coerce_Truth x0 = (coerce_cell_fault x0).bind fun v1 => cond (!decide (v1 = 0)) (some (false, v1)) (cond (decide (x0.1 = 1)) ((rat_Sign x0.2.1).bind fun v2 => some (!decide (v2 = 0), 0)) (cond (decide (x0.1 = 2)) ((value_Literal x0.2.2.1).bind fun v3 => cond (!decide (v3.2 = 0)) (coerce_Truth_1 true x0) (coerce_Truth_1 (!decide (v3.1.1 = 3)) x0)) (some (x0.2.2.2.1, 0)))) := (top_call ..).trans (by kernel_rfl)
theorem coerce_Truth_1_eq (a1 : Bool) (a2 : Int × (Bool × List UInt8 × List UInt8) × List UInt8 × Bool × Int) : coerce_Truth_1 a1 a2 = cond a1 (some (false, 2)) (some (decide (a2.2.2.1 = ([84, 82, 85, 69] : List UInt8)), 0)) := (top_stage ..).trans (by kernel_rfl)
theorem abacistref08_Truth_eq (x0 : Bool) : abacistref08_Truth x0 = some (3, (false, [], []), [], x0, 0) := (top_call ..).trans (by kernel_rfl)
theorem value_Right_eq (x0 : Int × (Bool × List UInt8 × List UInt8) × List UInt8 × Bool × Int) : value_Right x0 = cond (decide (x0.1 = 0)) (some ((decide (x0.1 = 0)) && ((x0.2.1.1 == false) && ((decide (x0.2.1.2.1 = [])) && ((decide (x0.2.1.2.2 = [])) && ((decide (x0.2.2.1 = [])) && ((x0.2.2.2.1 == false) && (decide (x0.2.2.2.2 = 0))))))))) (cond (decide (x0.1 = 1)) ((value_Num x0.2.1).bind fun v1 => some ((decide (x0.1 = v1.1)) && ((x0.2.1.1 == v1.2.1.1) && ((decide (x0.2.1.2.1 = v1.2.1.2.1)) && ((decide (x0.2.1.2.2 = v1.2.1.2.2)) && ((decide (x0.2.2.1 = v1.2.2.1)) && ((x0.2.2.2.1 == v1.2.2.2.1) && (decide (x0.2.2.2.2 = v1.2.2.2.2))))))))) (cond (decide (x0.1 = 2)) ((value_Text x0.2.2.1).bind fun v2 => some ((decide (x0.1 = v2.1)) && ((x0.2.1.1 == v2.2.1.1) && ((decide (x0.2.1.2.1 = v2.2.1.2.1)) && ((decide (x0.2.1.2.2 = v2.2.1.2.2)) && ((decide (x0.2.2.1 = v2.2.2.1)) && ((x0.2.2.2.1 == v2.2.2.2.1) && (decide (x0.2.2.2.2 = v2.2.2.2.2))))))))) (cond (decide (x0.1 = 3)) ((value_Truth x0.2.2.2.1).bind fun v3 => some ((decide (x0.1 = v3.1)) && ((x0.2.1.1 == v3.2.1.1) && ((decide (x0.2.1.2.1 = v3.2.1.2.1)) && ((decide (x0.2.1.2.2 = v3.2.1.2.2)) && ((decide (x0.2.2.1 = v3.2.2.1)) && ((x0.2.2.2.1 == v3.2.2.2.1) && (decide (x0.2.2.2.2 = v3.2.2.2.2))))))))) (cond (decide (x0.1 = 4)) ((value_Fault x0.2.2.2.2).bind fun v4 => some ((decide (x0.1 = v4.1)) && ((x0.2.1.1 == v4.2.1.1) && ((decide (x0.2.1.2.1 = v4.2.1.2.1)) && ((decide (x0.2.1.2.2 = v4.2.1.2.2)) && ((decide (x0.2.2.1 = v4.2.2.1)) && ((x0.2.2.2.1 == v4.2.2.2.1) && (decide (x0.2.2.2.2 = v4.2.2.2.2))))))))) (some false))))) := (top_call ..).trans (by kernel_rfl)
theorem rat_Of_eq (x0 : Int) : rat_Of x0 = (whole_Of x0).bind fun v1 => some (v1.1, v1.2, ([1] : List UInt8)) := (top_call ..).trans (by kernel_rfl)
theorem value_Num_eq (x0 : Bool × List UInt8 × List UInt8) : value_Num x0 = (rat_Right x0).bind fun v1 => cond (!v1) ((rat_Of 0).bind fun v2 => value_Num_1 v2 (0, (false, [], []), [], false, 0)) (value_Num_1 x0 (0, (false, [], []), [], false, 0)) := (top_call ..).trans (by kernel_rfl)
theorem value_Num_1_eq (a1 : Bool × List UInt8 × List UInt8) (a2 : Int × (Bool × List UInt8 × List UInt8) × List UInt8 × Bool × Int) : value_Num_1 a1 a2 = some (1, a1, [], false, 0) := (top_stage ..).trans (by kernel_rfl)
theorem value_Text_eq (x0 : List UInt8) : value_Text x0 = (value_plain x0).bind fun v1 => cond (!v1) ((value_Fault 2).bind fun v2 => some v2) (some (2, (false, [], []), x0, false, 0)) := (top_call ..).trans (by kernel_rfl)
theorem value_Truth_eq (x0 : Bool) : value_Truth x0 = some (3, (false, [], []), [], x0, 0) := (top_call ..).trans (by kernel_rfl)
theorem cmp_isNaN_int_eq (x0 : Int) : cmp_isNaN_int x0 = some (!decide (x0 = x0)) := (top_call ..).trans (by kernel_rfl)
theorem rat_well_eq (x0 : Bool × List UInt8 × List UInt8) : rat_well x0 = (rat_Right x0).bind fun v1 => cond v1 (some x0) (some (false, [], ([1] : List UInt8))) := (top_call ..).trans (by kernel_rfl)
theorem rat_crossed_eq (x0 : Bool × List UInt8 × List UInt8) (x1 : Bool × List UInt8 × List UInt8) : rat_crossed x0 x1 = cond (decide (x0.2.2 = x1.2.2)) ((rat_top x0).bind fun v1 => (rat_top x1).bind fun v2 => some (v1, v2)) ((rat_top x0).bind fun v3 => (rat_low x1).bind fun v4 => (whole_Mul v3 v4).bind fun v5 => (rat_top x1).bind fun v6 => (rat_low x0).bind fun v7 => (whole_Mul v6 v7).bind fun v8 => some (v5, v8)) := (top_call ..).trans (by kernel_rfl)
theorem whole_Cmp_eq (x0 : Bool × List UInt8) (x1 : Bool × List UInt8) : whole_Cmp x0 x1 = (whole_well x0).bind fun v1 => (whole_well x1).bind fun v2 => (nat_Cmp v1.2 v2.2).bind fun v3 => cond v1.1 (whole_Cmp_1 v3 v2.1 v1 v2) (whole_Cmp_1 v3 false v1 v2) := (top_call ..).trans (by kernel_rfl)
theorem whole_Cmp_1_eq (a1 : Int) (a2 : Bool) (a3 : Bool × List UInt8) (a4 : Bool × List UInt8) : whole_Cmp_1 a1 a2 a3 a4 = cond a2 (some (IntKind.i64.wrap (0 - a1))) (cond a3.1 (some (-1)) (cond a4.1 (some 1) (some a1))) := (top_stage ..).trans (by kernel_rfl)
theorem cmp_isNaN_string_eq (x0 : List UInt8) : cmp_isNaN_string x0 = some (!decide (x0 = x0)) := (top_call ..).trans (by kernel_rfl)
theorem cmp_isNaN_int64_eq (x0 : Int) : cmp_isNaN_int64 x0 = some (!decide (x0 = x0)) := (top_call ..).trans (by kernel_rfl)
theorem abacistref08_Right_eq (x0 : Int × (Bool × List UInt8 × List UInt8) × List UInt8 × Bool × Int) : abacistref08_Right x0 = cond (decide (x0.1 = 0)) (some ((decide (x0.1 = 0)) && ((x0.2.1.1 == false) && ((decide (x0.2.1.2.1 = [])) && ((decide (x0.2.1.2.2 = [])) && ((decide (x0.2.2.1 = [])) && ((x0.2.2.2.1 == false) && (decide (x0.2.2.2.2 = 0))))))))) (cond (decide (x0.1 = 1)) ((abacistref05_Right x0.2.1).bind fun v1 => cond v1 (some ((decide (x0.1 = 1)) && ((x0.2.1.1 == x0.2.1.1) && ((decide (x0.2.1.2.1 = x0.2.1.2.1)) && ((decide (x0.2.1.2.2 = x0.2.1.2.2)) && ((decide (x0.2.2.1 = [])) && ((x0.2.2.2.1 == false) && (decide (x0.2.2.2.2 = 0))))))))) (some false)) (cond (decide (x0.1 = 2)) ((abacistref08_Plain x0.2.2.1).bind fun v2 => cond v2 (some ((decide (x0.1 = 2)) && ((x0.2.1.1 == false) && ((decide (x0.2.1.2.1 = [])) && ((decide (x0.2.1.2.2 = [])) && ((decide (x0.2.2.1 = x0.2.2.1)) && ((x0.2.2.2.1 == false) && (decide (x0.2.2.2.2 = 0))))))))) (some false)) (cond (decide (x0.1 = 3)) (some ((decide (x0.1 = 3)) && ((x0.2.1.1 == false) && ((decide (x0.2.1.2.1 = [])) && ((decide (x0.2.1.2.2 = [])) && ((decide (x0.2.2.1 = [])) && ((x0.2.2.2.1 == x0.2.2.2.1) && (decide (x0.2.2.2.2 = 0))))))))) (cond (decide (x0.1 = 4)) (cond (decide (x0.2.2.2.2 ≥ 1)) (cond (decide (x0.2.2.2.2 ≤ 7)) (some ((decide (x0.1 = 4)) && ((x0.2.1.1 == false) && ((decide (x0.2.1.2.1 = [])) && ((decide (x0.2.1.2.2 = [])) && ((decide (x0.2.2.1 = [])) && ((x0.2.2.2.1 == false) && (decide (x0.2.2.2.2 = x0.2.2.2.2))))))))) (some false)) (some false)) (some false))))) := (top_call ..).trans (by kernel_rfl)
theorem abacistref05_Of_eq (x0 : Int) : abacistref05_Of x0 = (abacistref04_Of x0).bind fun v1 => (abacistref04_Of 1).bind fun v2 => (abacistref05_Make v1 v2).bind fun v3 => some v3.1 := (top_call ..).trans (by kernel_rfl)
theorem abacistref08_Num_eq (x0 : Bool × List UInt8 × List UInt8) : abacistref08_Num x0 = (abacistref05_Well x0).bind fun v1 => some (1, v1, [], false, 0) := (top_call ..).trans (by kernel_rfl)
theorem abacistref05_Top_eq (x0 : Bool × List UInt8 × List UInt8) : abacistref05_Top x0 = (abacistref05_Well x0).bind fun v1 => (abacistref05_Well x0).bind fun v2 => (abacistref04_Make v1.1 v2.2.1).bind fun v3 => some v3 := (top_call ..).trans (by kernel_rfl)
theorem abacistref05_Low_eq (x0 : Bool × List UInt8 × List UInt8) : abacistref05_Low x0 = (abacistref05_Well x0).bind fun v1 => (abacistref04_Make false v1.2.2).bind fun v2 => some v2 := (top_call ..).trans (by kernel_rfl)
theorem abacistref04_Mul_eq (x0 : Bool × List UInt8) (x1 : Bool × List UInt8) : abacistref04_Mul x0 x1 = (abacistref04_well x0).bind fun v1 => (abacistref04_well x1).bind fun v2 => (abacistref01_Mul v1.2 v2.2).bind fun v3 => (abacistref04_Make (!(v1.1 == v2.1)) v3).bind fun v4 => some v4 := (top_call ..).trans (by kernel_rfl)
theorem abacistref04_Cmp_eq (x0 : Bool × List UInt8) (x1 : Bool × List UInt8) : abacistref04_Cmp x0 x1 = (abacistref04_well x0).bind fun v1 => (abacistref04_well x1).bind fun v2 => cond (!(v1.1 == v2.1)) (cond v1.1 (some (-1)) (some 1)) (cond v1.1 ((abacistref01_Cmp v2.2 v1.2).bind fun v3 => some v3) ((abacistref01_Cmp v1.2 v2.2).bind fun v4 => some v4)) := (top_call ..).trans (by kernel_rfl)
theorem abacistref08_Plain_eq (x0 : List UInt8) : abacistref08_Plain x0 = cond (decide ((x0.length : Int) > 200)) (some false) (abacistref08_Plain_1 x0 0) := (top_call ..).trans (by kernel_rfl)
theorem abacistref08_Plain_1_eq (a1 : List UInt8) (a2 : Int) : abacistref08_Plain_1 a1 a2 = cond (decide (a2 < (a1.length : Int))) (cond (decide (0 ≤ a2) && decide (a2 < (a1.length : Int))) (cond (decide (((a1.getD a2.toNat 0).toNat : Int) < 32)) (abacistref08_Plain_2 a1 a2 true) (cond (decide (0 ≤ a2) && decide (a2 < (a1.length : Int))) (abacistref08_Plain_2 a1 a2 (decide (((a1.getD a2.toNat 0).toNat : Int) > 126))) none)) none) (some true) := (top_stage ..).trans (by kernel_rfl)
theorem abacistref08_Plain_2_eq (a1 : List UInt8) (a2 : Int) (a3 : Bool) : abacistref08_Plain_2 a1 a2 a3 = cond a3 (some false) (abacistref08_Plain_1 a1 (IntKind.i64.wrap (a2 + 1))) := (top_stage ..).trans (by kernel_rfl)
theorem numtext_Parse_eq (x0 : List UInt8) : numtext_Parse x0 = (strings_CutPrefix x0 ([45] : List UInt8)).bind fun v1 => (strings_Cut v1.1 ([47] : List UInt8)).bind fun v2 => cond v2.2.2 ((numtext_fraction v2.1 v2.2.1).bind fun v3 => numtext_Parse_1 v1.2 v3.2 (false, [], []) v3.1) ((numtext_Decimal v1.1).bind fun v4 => numtext_Parse_1 v1.2 v4.2 (false, [], []) v4.1) := (top_call ..).trans (by kernel_rfl)
theorem numtext_Parse_1_eq (a1 : Bool) (a2 : Int) (a3 : Bool × List UInt8 × List UInt8) (a4 : Bool × List UInt8 × List UInt8) : numtext_Parse_1 a1 a2 a3 a4 = cond (decide (a2 = 0)) (numtext_Parse_2 a2 a1 a3 a4) (numtext_Parse_2 a2 false a3 a4) := (top_stage ..).trans (by kernel_rfl)
theorem numtext_Parse_2_eq (a1 : Int) (a2 : Bool) (a3 : Bool × List UInt8 × List UInt8) (a4 : Bool × List UInt8 × List UInt8) : numtext_Parse_2 a1 a2 a3 a4 = cond a2 ((rat_Neg a4).bind fun v1 => numtext_Parse_3 a1 a3 v1) (numtext_Parse_3 a1 a3 a4) := (top_stage ..).trans (by kernel_rfl)
theorem numtext_Parse_3_eq (a1 : Int) (a2 : Bool × List UInt8 × List UInt8) (a3 : Bool × List UInt8 × List UInt8) : numtext_Parse_3 a1 a2 a3 = some (a3, a1) := (top_stage ..).trans (by kernel_rfl)
theorem rat_Sign_eq (x0 : Bool × List UInt8 × List UInt8) : rat_Sign x0 = (rat_well x0).bind fun v1 => cond (decide (v1.2.1 = ([] : List UInt8))) (some 0) (cond v1.1 (some (-1)) (some 1)) := (top_call ..).trans (by kernel_rfl)
theorem value_Literal_eq (x0 : List UInt8) : value_Literal x0 = cond (decide ((x0.length : Int) > 300)) (some ((0, (false, [], []), [], false, 0), 9)) (cond (decide (x0 = ([] : List UInt8))) (some ((0, (false, [], []), [], false, 0), 0)) (cond (decide (x0 = ([84, 82, 85, 69] : List UInt8))) (value_Literal_1 x0 true (0, (false, [], []), [], false, 0)) (value_Literal_1 x0 (decide (x0 = ([70, 65, 76, 83, 69] : List UInt8))) (0, (false, [], []), [], false, 0)))) := (top_call ..).trans (by kernel_rfl)
theorem value_Literal_1_eq (a1 : List UInt8) (a2 : Bool) (a3 : Int × (Bool × List UInt8 × List UInt8) × List UInt8 × Bool × Int) : value_Literal_1 a1 a2 a3 = cond a2 ((value_Truth (decide (a1 = ([84, 82, 85, 69] : List UInt8)))).bind fun v1 => some (v1, 0)) ((value_Named a1).bind fun v2 => cond v2.2 ((value_Fault v2.1).bind fun v3 => some (v3, 0)) ((numtext_Parse a1).bind fun v4 => cond (decide (v4.2 = 0)) ((value_Num v4.1).bind fun v5 => some (v5, 0)) ((strings_CutPrefix a1 ([39] : List UInt8)).bind fun v6 => (value_plain v6.1).bind fun v7 => cond (!v7) (some ((0, (false, [], []), [], false, 0), 10)) ((value_Text v6.1).bind fun v8 => some (v8, 0))))) := (top_stage ..).trans (by kernel_rfl)
theorem value_Fault_eq (x0 : Int) : value_Fault x0 = (value_Name x0).bind fun v1 => cond (decide (v1 = ([] : List UInt8))) (value_Fault_1 2 (0, (false, [], []), [], false, 0)) (value_Fault_1 x0 (0, (false, [], []), [], false, 0)) := (top_call ..).trans (by kernel_rfl)
theorem value_Fault_1_eq (a1 : Int) (a2 : Int × (Bool × List UInt8 × List UInt8) × List UInt8 × Bool × Int) : value_Fault_1 a1 a2 = some (4, (false, [], []), [], false, a1) := (top_stage ..).trans (by kernel_rfl)
theorem whole_Of_eq (x0 : Int) : whole_Of x0 = cond (decide (x0 < 0)) ((nat_Of (IntKind.u64.wrap (0 - (IntKind.u64.wrap x0)))).bind fun v1 => (whole_Make true v1).bind fun v2 => some v2) ((nat_Of (IntKind.u64.wrap x0)).bind fun v3 => (whole_Make false v3).bind fun v4 => some v4) := (top_call ..).trans (by kernel_rfl)
theorem rat_Right_eq (x0 : Bool × List UInt8 × List UInt8) : rat_Right x0 = (rat_tidy x0.2.1).bind fun v1 => cond (!v1) (rat_Right_1 true x0) ((rat_tidy x0.2.2).bind fun v2 => cond (!v2) (rat_Right_1 true x0) (rat_Right_1 (decide (x0.2.2 = ([] : List UInt8))) x0)) := (top_call ..).trans (by kernel_rfl)
theorem rat_Right_1_eq (a1 : Bool) (a2 : Bool × List UInt8 × List UInt8) : rat_Right_1 a1 a2 = cond a1 (some false) (cond (decide (a2.2.1 = ([] : List UInt8))) (cond (!a2.1) (some (decide (a2.2.2 = ([1] : List UInt8)))) (some false)) (cond (decide (a2.2.2 = ([1] : List UInt8))) (some true) ((divide_Gcd a2.2.1 a2.2.2).bind fun v1 => some (decide (v1 = ([1] : List UInt8)))))) := (top_stage ..).trans (by kernel_rfl)
theorem value_plain_eq (x0 : List UInt8) : value_plain x0 = value_plain_1 x0 (x0.map fun b => (b.toNat : Int)) ((x0.map fun b => (b.toNat : Int)).length : Int) 0 := (top_call ..).trans (by kernel_rfl)
theorem value_plain_1_eq (a1 : List UInt8) (a2 : List Int) (a3 : Int) (a4 : Int) : value_plain_1 a1 a2 a3 a4 = cond (decide (a4 < a3)) (cond (decide (0 ≤ a4) && decide (a4 < (a2.length : Int))) (cond (decide ((a2.getD a4.toNat 0) < 32)) (value_plain_2 a1 a2 a3 a4 true) (value_plain_2 a1 a2 a3 a4 (decide ((a2.getD a4.toNat 0) > 126)))) none) (some (decide ((a1.length : Int) ≤ 200))) := (top_stage ..).trans (by kernel_rfl)
theorem value_plain_2_eq (a1 : List UInt8) (a2 : List Int) (a3 : Int) (a4 : Int) (a5 : Bool) : value_plain_2 a1 a2 a3 a4 a5 = cond a5 (some false) (value_plain_1 a1 a2 a3 (IntKind.i64.wrap (a4 + 1))) := (top_stage ..).trans (by kernel_rfl)
theorem rat_top_eq (x0 : Bool × List UInt8 × List UInt8) : rat_top x0 = some (x0.1, x0.2.1) := (top_call ..).trans (by kernel_rfl)
theorem rat_low_eq (x0 : Bool × List UInt8 × List UInt8) : rat_low x0 = some (false, x0.2.2) := (top_call ..).trans (by kernel_rfl)
theorem whole_Mul_eq (x0 : Bool × List UInt8) (x1 : Bool × List UInt8) : whole_Mul x0 x1 = (nat_Mul x0.2 x1.2).bind fun v1 => (whole_Make (!(x0.1 == x1.1)) v1).bind fun v2 => some v2 := (top_call ..).trans (by kernel_rfl)
theorem whole_well_eq (x0 : Bool × List UInt8) : whole_well x0 = (whole_Make x0.1 x0.2).bind fun v1 => some v1 := (top_call ..).trans (by kernel_rfl)
theorem abacistref05_Right_eq (x0 : Bool × List UInt8 × List UInt8) : abacistref05_Right x0 = cond (decide ((x0.2.1.length : Int) > 32)) (abacistref05_Right_1 true x0) (cond (decide ((x0.2.2.length : Int) > 32)) (abacistref05_Right_1 true x0) (cond (decide (x0.2.2 = ([] : List UInt8))) (abacistref05_Right_1 true x0) ((abacistref01_Trim x0.2.1).bind fun v1 => cond (!decide (v1 = x0.2.1)) (abacistref05_Right_1 true x0) ((abacistref01_Trim x0.2.2).bind fun v2 => abacistref05_Right_1 (!decide (v2 = x0.2.2)) x0)))) := (top_call ..).trans (by kernel_rfl)
theorem abacistref05_Right_1_eq (a1 : Bool) (a2 : Bool × List UInt8 × List UInt8) : abacistref05_Right_1 a1 a2 = cond a1 (some false) (cond (decide (a2.2.1 = ([] : List UInt8))) (cond (!a2.1) (some (decide (a2.2.2 = ([1] : List UInt8)))) (some false)) ((abacistref02_Gcd a2.2.1 a2.2.2).bind fun v1 => some (decide (v1 = ([1] : List UInt8))))) := (top_stage ..).trans (by kernel_rfl)
theorem abacistref04_Of_eq (x0 : Int) : abacistref04_Of x0 = cond (decide (x0 < 0)) ((abacistref01_Of (IntKind.u64.wrap (0 - (IntKind.u64.wrap x0)))).bind fun v1 => (abacistref04_Make true v1).bind fun v2 => some v2) ((abacistref01_Of (IntKind.u64.wrap x0)).bind fun v3 => (abacistref04_Make false v3).bind fun v4 => some v4) := (top_call ..).trans (by kernel_rfl)
theorem abacistref05_Make_eq (x0 : Bool × List UInt8) (x1 : Bool × List UInt8) : abacistref05_Make x0 x1 = (abacistref04_Make x0.1 x0.2).bind fun v1 => (abacistref04_Make x1.1 x1.2).bind fun v2 => cond (decide (v2.2 = ([] : List UInt8))) (some ((false, [], []), 5)) ((abacistref02_Gcd v1.2 v2.2).bind fun v3 => (abacistref02_Div v1.2 v3).bind fun v4 => (abacistref02_Div v2.2 v3).bind fun v5 => (abacistref01_Bits v4).bind fun v6 => cond (decide (v6 > 256)) (abacistref05_Make_1 v4 v5 true (false, [], []) v1 v2) ((abacistref01_Bits v5).bind fun v7 => abacistref05_Make_1 v4 v5 (decide (v7 > 256)) (false, [], []) v1 v2)) := (top_call ..).trans (by kernel_rfl)
theorem abacistref05_Make_1_eq (a1 : List UInt8) (a2 : List UInt8) (a3 : Bool) (a4 : Bool × List UInt8 × List UInt8) (a5 : Bool × List UInt8) (a6 : Bool × List UInt8) : abacistref05_Make_1 a1 a2 a3 a4 a5 a6 = cond a3 (some ((false, [], []), 4)) (cond (!decide (a1 = ([] : List UInt8))) (some ((!(a5.1 == a6.1), a1, a2), 0)) (some ((false, a1, a2), 0))) := (top_stage ..).trans (by kernel_rfl)
theorem abacistref05_Well_eq (x0 : Bool × List UInt8 × List UInt8) : abacistref05_Well x0 = (abacistref05_Right x0).bind fun v1 => cond (!v1) ((abacistref05_Zero).bind fun v2 => some v2) (some x0) := (top_call ..).trans (by kernel_rfl)
theorem abacistref04_Make_eq (x0 : Bool) (x1 : List UInt8) : abacistref04_Make x0 x1 = (abacistref01_Trim x1).bind fun v1 => cond x0 (some (!decide (v1 = ([] : List UInt8)), v1)) (some (false, v1)) := (top_call ..).trans (by kernel_rfl)
theorem abacistref04_well_eq (x0 : Bool × List UInt8) : abacistref04_well x0 = (abacistref04_Make x0.1 x0.2).bind fun v1 => some v1 := (top_call ..).trans (by kernel_rfl)
theorem strings_CutPrefix_eq (x0 : List UInt8) (x1 : List UInt8) : strings_CutPrefix x0 x1 = (internal_stringslite_CutPrefix x0 x1).bind fun v1 => some v1 := (top_call ..).trans (by kernel_rfl)
theorem numtext_fraction_eq (x0 : List UInt8) (x1 : List UInt8) : numtext_fraction x0 x1 = (dec_Parse x0).bind fun v1 => (dec_Parse x1).bind fun v2 => cond (decide (v1.2 = 3)) (numtext_fraction_1 v1.1 v1.2 v2.1 v2.2 true (false, [], [])) (numtext_fraction_1 v1.1 v1.2 v2.1 v2.2 (decide (v2.2 = 3)) (false, [], [])) := (top_call ..).trans (by kernel_rfl)
theorem numtext_fraction_1_eq (a1 : List UInt8) (a2 : Int) (a3 : List UInt8) (a4 : Int) (a5 : Bool) (a6 : Bool × List UInt8 × List UInt8) : numtext_fraction_1 a1 a2 a3 a4 a5 a6 = cond a5 (some ((false, [], []), 10)) (cond (decide (a2 = 0)) (numtext_fraction_2 a1 a4 a3 a6) (numtext_fraction_2 a1 a2 a3 a6)) := (top_stage ..).trans (by kernel_rfl)
theorem numtext_fraction_2_eq (a1 : List UInt8) (a2 : Int) (a3 : List UInt8) (a4 : Bool × List UInt8 × List UInt8) : numtext_fraction_2 a1 a2 a3 a4 = cond (!decide (a2 = 0)) (some ((false, [], []), a2)) ((whole_Make false a1).bind fun v1 => (whole_Make false a3).bind fun v2 => (rat_Make v1 v2).bind fun v3 => some v3) := (top_stage ..).trans (by kernel_rfl)
theorem numtext_Decimal_eq (x0 : List UInt8) : numtext_Decimal x0 = (strings_Cut x0 ([46] : List UInt8)).bind fun v1 => (numtext_digits v1.1).bind fun v2 => cond (!v2) (numtext_Decimal_1 x0 v1.1 v1.2.1 true (false, [], [])) (cond v1.2.2 ((numtext_digits v1.2.1).bind fun v3 => numtext_Decimal_1 x0 v1.1 v1.2.1 (!v3) (false, [], [])) (numtext_Decimal_1 x0 v1.1 v1.2.1 false (false, [], []))) := (top_call ..).trans (by kernel_rfl)
theorem numtext_Decimal_1_eq (a1 : List UInt8) (a2 : List UInt8) (a3 : List UInt8) (a4 : Bool) (a5 : Bool × List UInt8 × List UInt8) : numtext_Decimal_1 a1 a2 a3 a4 a5 = cond a4 (some ((false, [], []), 10)) (cond (decide ((a1.length : Int) > 400)) (some ((false, [], []), 9)) (cond (Nat.ble (a2.length + a3.length) 9223372036854775807) ((dec_Parse (a2 ++ a3)).bind fun v1 => cond (!decide (v1.2 = 0)) (some ((false, [], []), v1.2)) ((whole_Make false v1.1).bind fun v2 => (numtext_power 10 (a3.length : Int)).bind fun v3 => (whole_Make false v3).bind fun v4 => (rat_Make v2 v4).bind fun v5 => some v5)) none)) := (top_stage ..).trans (by kernel_rfl)
theorem rat_Neg_eq (x0 : Bool × List UInt8 × List UInt8) : rat_Neg x0 = (rat_well x0).bind fun v1 => cond (!v1.1) (rat_Neg_1 (!decide (v1.2.1 = ([] : List UInt8)), v1.2) (false, [], [])) (rat_Neg_1 (false, v1.2) (false, [], [])) := (top_call ..).trans (by kernel_rfl)
theorem rat_Neg_1_eq (a1 : Bool × List UInt8 × List UInt8) (a2 : Bool × List UInt8 × List UInt8) : rat_Neg_1 a1 a2 = some a1 := (top_stage ..).trans (by kernel_rfl)
theorem value_Named_eq (x0 : List UInt8) : value_Named x0 = value_Named_1 x0 := (top_call ..).trans (by kernel_rfl)
theorem value_Named_1_eq (a1 : List UInt8) : value_Named_1 a1 = value_Named_2 a1 ([] : List UInt8) ([35, 68, 73, 86, 47, 48, 33] : List UInt8) ([35, 86, 65, 76, 85, 69, 33] : List UInt8) ([35, 82, 69, 70, 33] : List UInt8) ([35, 78, 65, 77, 69, 63] : List UInt8) ([35, 78, 85, 77, 33] : List UInt8) ([35, 78, 47, 65] : List UInt8) ([35, 67, 73, 82, 67, 33] : List UInt8) 0 := (top_stage ..).trans (by kernel_rfl)
theorem value_Named_2_eq (a1 : List UInt8) (a2 : List UInt8) (a3 : List UInt8) (a4 : List UInt8) (a5 : List UInt8) (a6 : List UInt8) (a7 : List UInt8) (a8 : List UInt8) (a9 : List UInt8) (a10 : Int) : value_Named_2 a1 a2 a3 a4 a5 a6 a7 a8 a9 a10 = cond (decide (a10 < 8)) (cond (decide (0 ≤ a10) && decide (a10 < (8 : Int))) (cond (decide (a10 > 0)) (value_Named_3 a1 a10 a2 a3 a4 a5 a6 a7 a8 a9 a10 (decide ((([a2, a3, a4, a5, a6, a7, a8, a9] : List (List UInt8)).getD a10.toNat []) = a1))) (value_Named_3 a1 a10 a2 a3 a4 a5 a6 a7 a8 a9 a10 false)) none) (some (0, false)) := (top_stage ..).trans (by kernel_rfl)
theorem value_Named_3_eq (a1 : List UInt8) (a2 : Int) (a3 : List UInt8) (a4 : List UInt8) (a5 : List UInt8) (a6 : List UInt8) (a7 : List UInt8) (a8 : List UInt8) (a9 : List UInt8) (a10 : List UInt8) (a11 : Int) (a12 : Bool) : value_Named_3 a1 a2 a3 a4 a5 a6 a7 a8 a9 a10 a11 a12 = cond a12 (some (a2, true)) (value_Named_2 a1 a3 a4 a5 a6 a7 a8 a9 a10 (IntKind.i64.wrap (a11 + 1))) := (top_stage ..).trans (by kernel_rfl)
theorem value_Name_eq (x0 : Int) : value_Name x0 = value_Name_1 x0 := (top_call ..).trans (by kernel_rfl)
theorem value_Name_1_eq (a1 : Int) : value_Name_1 a1 = cond (decide (a1 < 0)) (value_Name_2 a1 true ([] : List UInt8) ([35, 68, 73, 86, 47, 48, 33] : List UInt8) ([35, 86, 65, 76, 85, 69, 33] : List UInt8) ([35, 82, 69, 70, 33] : List UInt8) ([35, 78, 65, 77, 69, 63] : List UInt8) ([35, 78, 85, 77, 33] : List UInt8) ([35, 78, 47, 65] : List UInt8) ([35, 67, 73, 82, 67, 33] : List UInt8)) (value_Name_2 a1 (decide (a1 ≥ 8)) ([] : List UInt8) ([35, 68, 73, 86, 47, 48, 33] : List UInt8) ([35, 86, 65, 76, 85, 69, 33] : List UInt8) ([35, 82, 69, 70, 33] : List UInt8) ([35, 78, 65, 77, 69, 63] : List UInt8) ([35, 78, 85, 77, 33] : List UInt8) ([35, 78, 47, 65] : List UInt8) ([35, 67, 73, 82, 67, 33] : List UInt8)) := (top_stage ..).trans (by kernel_rfl)
theorem value_Name_2_eq (a1 : Int) (a2 : Bool) (a3 : List UInt8) (a4 : List UInt8) (a5 : List UInt8) (a6 : List UInt8) (a7 : List UInt8) (a8 : List UInt8) (a9 : List UInt8) (a10 : List UInt8) : value_Name_2 a1 a2 a3 a4 a5 a6 a7 a8 a9 a10 = cond a2 (some ([] : List UInt8)) (cond (decide (0 ≤ a1) && decide (a1 < (8 : Int))) (some (([a3, a4, a5, a6, a7, a8, a9, a10] : List (List UInt8)).getD a1.toNat [])) none) := (top_stage ..).trans (by kernel_rfl)
theorem whole_Make_eq (x0 : Bool) (x1 : List UInt8) : whole_Make x0 x1 = (nat_Trim x1).bind fun v1 => cond x0 (some (!decide (v1 = ([] : List UInt8)), v1)) (some (false, v1)) := (top_call ..).trans (by kernel_rfl)
theorem rat_tidy_eq (x0 : List UInt8) : rat_tidy x0 = cond (decide ((x0.length : Int) ≤ 32)) ((nat_Trim x0).bind fun v1 => some (decide (v1 = x0))) (some false) := (top_call ..).trans (by kernel_rfl)
theorem abacistref02_Div_eq (x0 : List UInt8) (x1 : List UInt8) : abacistref02_Div x0 x1 = (abacistref02_DivMod x0 x1).bind fun v1 => some v1.1 := (top_call ..).trans (by kernel_rfl)
theorem abacistref05_Zero_eq : abacistref05_Zero = some (false, [], ([1] : List UInt8)) := (top_call ..).trans (by kernel_rfl)
theorem internal_stringslite_CutPrefix_eq (x0 : List UInt8) (x1 : List UInt8) : internal_stringslite_CutPrefix x0 x1 = (internal_stringslite_HasPrefix x0 x1).bind fun v1 => cond (!v1) (some (x0, false)) (cond (decide (0 ≤ (x1.length : Int)) && decide ((x1.length : Int) ≤ (x0.length : Int))) (some (x0.drop ((x1.length : Int).toNat), true)) none) := (top_call ..).trans (by kernel_rfl)
theorem dec_Parse_eq (x0 : List UInt8) : dec_Parse x0 = cond (decide (x0 = ([] : List UInt8))) (dec_Parse_1 x0 true) ((dec_odd x0).bind fun v1 => dec_Parse_1 x0 v1) := (top_call ..).trans (by kernel_rfl)
theorem dec_Parse_1_eq (a1 : List UInt8) (a2 : Bool) : dec_Parse_1 a1 a2 = cond a2 (some (([] : List UInt8), 3)) (cond (decide ((a1.length : Int) > 400)) (some (([] : List UInt8), 9)) (dec_Parse_2 a1 ([] : List UInt8))) := (top_stage ..).trans (by kernel_rfl)
theorem dec_Parse_2_eq (a1 : List UInt8) (a2 : List UInt8) : dec_Parse_2 a1 a2 = cond (decide ((a1.length : Int) > 0)) (cond (decide (0 ≤ (min 9 (a1.length : Int))) && decide ((min 9 (a1.length : Int)) ≤ (a1.length : Int))) (dec_Parse_3 a1 a2 (min 9 (a1.length : Int)) 0 1 ((a1.take ((min 9 (a1.length : Int)).toNat)).map fun b => (b.toNat : Int)) (((a1.take ((min 9 (a1.length : Int)).toNat)).map fun b => (b.toNat : Int)).length : Int) 0) none) (some (a2, 0)) := (top_stage ..).trans (by kernel_rfl)
theorem dec_Parse_3_eq (a1 : List UInt8) (a2 : List UInt8) (a3 : Int) (a4 : Int) (a5 : Int) (a6 : List Int) (a7 : Int) (a8 : Int) : dec_Parse_3 a1 a2 a3 a4 a5 a6 a7 a8 = cond (decide (a8 < a7)) (cond (decide (0 ≤ a8) && decide (a8 < (a6.length : Int))) (dec_Parse_3 a1 a2 a3 (IntKind.u64.wrap ((IntKind.u64.wrap (a4 * 10)) + (IntKind.u64.wrap (IntKind.u8.wrap ((a6.getD a8.toNat 0) - 48))))) (IntKind.u64.wrap (a5 * 10)) a6 a7 (IntKind.i64.wrap (a8 + 1))) none) ((nat_Of a5).bind fun v1 => (nat_Mul a2 v1).bind fun v2 => (nat_Of a4).bind fun v3 => (nat_Add v2 v3).bind fun v4 => cond (decide (0 ≤ a3) && decide (a3 ≤ (a1.length : Int))) (dec_Parse_2 (a1.drop a3.toNat) v4) none) := (top_stage ..).trans (by kernel_rfl)
theorem rat_Make_eq (x0 : Bool × List UInt8) (x1 : Bool × List UInt8) : rat_Make x0 x1 = (nat_Trim x0.2).bind fun v1 => (nat_Trim x1.2).bind fun v2 => cond (decide (v2 = ([] : List UInt8))) (some ((false, [], []), 5)) ((divide_Gcd v1 v2).bind fun v3 => cond (!decide (v3 = ([1] : List UInt8))) ((divide_DivMod v1 v3).bind fun v4 => (divide_DivMod v2 v3).bind fun v5 => rat_Make_1 v4.1 v5.1 x0 x1 (false, [], [])) (rat_Make_1 v1 v2 x0 x1 (false, [], []))) := (top_call ..).trans (by kernel_rfl)
theorem rat_Make_1_eq (a1 : List UInt8) (a2 : List UInt8) (a3 : Bool × List UInt8) (a4 : Bool × List UInt8) (a5 : Bool × List UInt8 × List UInt8) : rat_Make_1 a1 a2 a3 a4 a5 = cond (decide ((a1.length : Int) > 32)) (rat_Make_2 a1 a2 true a3 a4 a5) (rat_Make_2 a1 a2 (decide ((a2.length : Int) > 32)) a3 a4 a5) := (top_stage ..).trans (by kernel_rfl)
theorem rat_Make_2_eq (a1 : List UInt8) (a2 : List UInt8) (a3 : Bool) (a4 : Bool × List UInt8) (a5 : Bool × List UInt8) (a6 : Bool × List UInt8 × List UInt8) : rat_Make_2 a1 a2 a3 a4 a5 a6 = cond a3 (some ((false, [], []), 4)) (cond (!decide (a1 = ([] : List UInt8))) (some ((!(a4.1 == a5.1), a1, a2), 0)) (some ((false, a1, a2), 0))) := (top_stage ..).trans (by kernel_rfl)
theorem numtext_digits_eq (x0 : List UInt8) : numtext_digits x0 = numtext_digits_1 x0 (x0.map fun b => (b.toNat : Int)) ((x0.map fun b => (b.toNat : Int)).length : Int) 0 := (top_call ..).trans (by kernel_rfl)
theorem numtext_digits_1_eq (a1 : List UInt8) (a2 : List Int) (a3 : Int) (a4 : Int) : numtext_digits_1 a1 a2 a3 a4 = cond (decide (a4 < a3)) (cond (decide (0 ≤ a4) && decide (a4 < (a2.length : Int))) (cond (decide ((a2.getD a4.toNat 0) < 48)) (numtext_digits_2 a1 a2 a3 a4 true) (numtext_digits_2 a1 a2 a3 a4 (decide ((a2.getD a4.toNat 0) > 57)))) none) (some (!decide (a1 = ([] : List UInt8)))) := (top_stage ..).trans (by kernel_rfl)
theorem numtext_digits_2_eq (a1 : List UInt8) (a2 : List Int) (a3 : Int) (a4 : Int) (a5 : Bool) : numtext_digits_2 a1 a2 a3 a4 a5 = cond a5 (some false) (numtext_digits_1 a1 a2 a3 (IntKind.i64.wrap (a4 + 1))) := (top_stage ..).trans (by kernel_rfl)
theorem numtext_power_eq (x0 : Int) (x1 : Int) : numtext_power x0 x1 = (nat_Of x0).bind fun v1 => (divide_Pow v1 x1).bind fun v2 => cond (!decide (v2.2 = 0)) (some ([] : List UInt8)) (some v2.1) := (top_call ..).trans (by kernel_rfl)
theorem internal_stringslite_HasPrefix_eq (x0 : List UInt8) (x1 : List UInt8) : internal_stringslite_HasPrefix x0 x1 = cond (decide ((x0.length : Int) ≥ (x1.length : Int))) (cond (decide (0 ≤ (x1.length : Int)) && decide ((x1.length : Int) ≤ (x0.length : Int))) (some (decide ((x0.take ((x1.length : Int).toNat)) = x1))) none) (some false) := (top_call ..).trans (by kernel_rfl)
theorem dec_odd_eq (x0 : List UInt8) : dec_odd x0 = dec_odd_1 (x0.map fun b => (b.toNat : Int)) ((x0.map fun b => (b.toNat : Int)).length : Int) 0 := (top_call ..).trans (by kernel_rfl)
theorem dec_odd_1_eq (a1 : List Int) (a2 : Int) (a3 : Int) : dec_odd_1 a1 a2 a3 = cond (decide (a3 < a2)) (cond (decide (0 ≤ a3) && decide (a3 < (a1.length : Int))) (cond (decide ((a1.getD a3.toNat 0) < 48)) (dec_odd_2 a1 a2 a3 true) (dec_odd_2 a1 a2 a3 (decide ((a1.getD a3.toNat 0) > 57)))) none) (some false) := (top_stage ..).trans (by kernel_rfl)
theorem dec_odd_2_eq (a1 : List Int) (a2 : Int) (a3 : Int) (a4 : Bool) : dec_odd_2 a1 a2 a3 a4 = cond a4 (some true) (dec_odd_1 a1 a2 (IntKind.i64.wrap (a3 + 1))) := (top_stage ..).trans (by kernel_rfl)
end Go.Proofs.YtodfaihlddiokaaGreatDoor.K
