/- Division by more than one limb, and DivMod: the whole. -/
import Derived.Test.YtcdcijhfjiahkaaDoorRPF
set_option linter.unusedVariables false
set_option linter.unusedSimpArgs false
namespace Go.Proofs.YtcdcijhfjiahkaaDoorR.P
open Go Go.Proofs.YtcdcijhfjiahkaaDoorR.K Go.Proofs.YtcdcijhfjiahkaaDoorR.C
theorem div_of_sub (U R V E : Nat) (hV : 0 < V) (h : U = R + V * E) : U / V = R / V + E ∧ U % V = R % V := by
  subst h
  exact ⟨Nat.add_mul_div_left _ _ hV, Nat.add_mul_mod_self_left ..⟩
theorem le_of_mul_lt {q Q D U : Nat} (h : q * D ≤ U) (h2 : U < (Q + 1) * D) : q ≤ Q := by
  have : q * D < (Q + 1) * D := Nat.lt_of_le_of_lt h h2
  exact Nat.lt_succ_iff.1 (Nat.lt_of_mul_lt_mul_right this)
theorem top_le (top next third high low P U' V' : Nat) (h : ((top * 4294967296 + next) * 4294967296 + third) * P + U' < ((high * 4294967296 + low) * P + V') * 4294967296) (hV : V' < P) (hlow : low < 4294967296) : top ≤ high := by
  have h1 : ((top * 4294967296 + next) * 4294967296 + third) * P < ((high * 4294967296 + low + 1) * 4294967296) * P := by
    have e : ((high * 4294967296 + low + 1) * 4294967296) * P = ((high * 4294967296 + low) * P + P) * 4294967296 := by rw [Nat.mul_right_comm, Nat.succ_mul]
    rw [e]; omega
  have := Nat.lt_of_mul_lt_mul_right h1
  omega
theorem eU_plain (U P t n p B : Nat) : U + P * t + P * B * n + P * B * B * p = ((p * B + n) * B + t) * P + U := by grind
theorem eD_plain (V Pk Pn l h B : Nat) : (V + Pn * l + Pn * B * h) * Pk = (h * B + l) * (Pk * Pn) + V * Pk := by grind
set_option maxHeartbeats 1000000 in
theorem divDigit (m rest : List Int) (hm : Ok 4294967296 m) (n k : Nat) (hmn : m.length = n + 2) (hh : 2147483648 ≤ (m.getD (n + 1) 0).toNat) (ho : Ok 4294967296 rest) (hr : k + n + 2 < rest.length) (hw : W 4294967296 rest < W 4294967296 m * 4294967296 ^ (k + 1)) :
    ∃ q : Nat, q < 4294967296 ∧ divide_guess (rest.getD (k + n + 2) 0) (rest.getD (k + n + 1) 0) (rest.getD (k + n) 0) (m.getD (n + 1) 0) (m.getD n 0) = some (q : Int) ∧
      W 4294967296 rest / (W 4294967296 m * 4294967296 ^ k) ≤ q ∧ q ≤ W 4294967296 rest / (W 4294967296 m * 4294967296 ^ k) + 1 ∧ W 4294967296 rest < 4294967296 ^ (k + n + 3) ∧ 0 < W 4294967296 m * 4294967296 ^ k := by
  have hVlt := W_lt hm
  rw [hmn] at hVlt
  have d0 := ho.getD (by decide) (k + n)
  have d1 := ho.getD (by decide) (k + n + 1)
  have d2 := ho.getD (by decide) (k + n + 2)
  have m0 := hm.getD (by decide) n
  have m1 := hm.getD (by decide) (n + 1)
  have hUT : W 4294967296 rest < 4294967296 ^ (k + n + 3) := by
    refine Nat.lt_of_lt_of_le hw ?_
    rw [show k + n + 3 = (n + 2) + (k + 1) by omega, Nat.pow_add 4294967296 (n + 2) (k + 1)]
    exact Nat.mul_le_mul_right _ (Nat.le_of_lt hVlt)
  have hUs := W_take_lt (by decide) ho (k + n + 3) hUT
  rw [W_take, W_take, W_take] at hUs
  have hVs := W_all 4294967296 m (n + 2) (by omega)
  rw [W_take, W_take] at hVs
  have hU' := W_lt (ho.take (k + n))
  rw [List.length_take, Nat.min_eq_left (by omega)] at hU'
  have hV' := W_lt (hm.take n)
  rw [List.length_take, Nat.min_eq_left (by omega)] at hV'
  have hwD : W 4294967296 rest < W 4294967296 m * 4294967296 ^ k * 4294967296 := by rw [Nat.pow_succ, ← Nat.mul_assoc] at hw; exact hw
  have b0 : rest.getD (k + n) 0 = ((rest.getD (k + n) 0).toNat : Int) := by omega
  have b1 : rest.getD (k + n + 1) 0 = ((rest.getD (k + n + 1) 0).toNat : Int) := by omega
  have b2 : rest.getD (k + n + 2) 0 = ((rest.getD (k + n + 2) 0).toNat : Int) := by omega
  have c0 : m.getD n 0 = ((m.getD n 0).toNat : Int) := by omega
  have c1 : m.getD (n + 1) 0 = ((m.getD (n + 1) 0).toNat : Int) := by omega
  have t1 : (rest.getD (k + n + 1) 0).toNat < 4294967296 := by omega
  have t0 : (rest.getD (k + n) 0).toNat < 4294967296 := by omega
  have l0 : (m.getD n 0).toNat < 4294967296 := by omega
  have l1 : (m.getD (n + 1) 0).toNat < 4294967296 := by omega
  clear d0 d1 d2 m0 m1
  rw [b0, b1, b2, c0, c1]
  clear b0 b1 b2 c0 c1
  generalize W 4294967296 (rest.take (k + n)) = U' at *
  generalize W 4294967296 (m.take n) = V' at *
  generalize (rest.getD (k + n) 0).toNat = third at *
  generalize (rest.getD (k + n + 1) 0).toNat = next at *
  generalize (rest.getD (k + n + 2) 0).toNat = top at *
  generalize (m.getD n 0).toNat = low at *
  generalize (m.getD (n + 1) 0).toNat = high at *
  generalize W 4294967296 rest = U at *
  generalize W 4294967296 m = V at *
  have eP : 4294967296 ^ (k + n) = 4294967296 ^ k * 4294967296 ^ n := Nat.pow_add ..
  have eU : U = ((top * 4294967296 + next) * 4294967296 + third) * 4294967296 ^ (k + n) + U' := by
    rw [← hUs, show 4294967296 ^ (k + n + 2) = 4294967296 ^ (k + n) * 4294967296 * 4294967296 by rw [Nat.pow_succ, Nat.pow_succ], show 4294967296 ^ (k + n + 1) = 4294967296 ^ (k + n) * 4294967296 by rw [Nat.pow_succ]]
    exact eU_plain ..
  have eD : V * 4294967296 ^ k = (high * 4294967296 + low) * 4294967296 ^ (k + n) + V' * 4294967296 ^ k := by
    rw [← hVs, show 4294967296 ^ (n + 1) = 4294967296 ^ n * 4294967296 by rw [Nat.pow_succ], eP]
    exact eD_plain ..
  have hV'' : V' * 4294967296 ^ k < 4294967296 ^ (k + n) := by
    rw [eP, Nat.mul_comm]
    exact Nat.mul_lt_mul_of_pos_left hV' (Nat.pow_pos (by decide))
  have hPpos : 0 < 4294967296 ^ (k + n) := Nat.pow_pos (by decide)
  clear hVs hUs hw hV' eP hVlt
  have hlt := hwD
  rw [eU, eD] at hlt
  rw [eD, eU]
  rw [eU] at hUT
  clear eU eD hwD
  generalize V' * 4294967296 ^ k = V'' at *
  generalize 4294967296 ^ (k + n) = P at *
  have htop := top_le top next third high low _ U' _ hlt hV'' l0
  have hk1 := knuth P _ U' (high * 4294967296 + low) V'' hU' hV'' hlt (by omega)
  have hg := divGuess top next third high low htop t1 t0 l1 hh l0
  exact ⟨_, Nat.lt_of_le_of_lt (Nat.min_le_left _ _) (by decide), hg, hk1.1, hk1.2, hUT, Nat.lt_of_lt_of_le (Nat.mul_pos (by omega) hPpos) (Nat.le_add_right ..)⟩
set_option maxHeartbeats 1000000 in
theorem divLong1 (m : List Int) (hm : Ok 4294967296 m) (n : Nat) (hmn : m.length = n + 2) (hn : n ≤ 900000000) (hh : 2147483648 ≤ (m.getD (n + 1) 0).toNat) (s : Nat) (hs : s < 32) (Lr : Nat) (hL : Lr ≤ 2000000000) : ∀ (k : Nat) (rest out : List Int),
    k + (n + 2) ≤ Lr → rest.length = Lr → Ok 4294967296 rest → Ok 4294967296 out → k ≤ out.length → out.length ≤ Lr → (∀ p, p < k → out.getD p 0 = 0) → W 4294967296 rest < W 4294967296 m * 4294967296 ^ k →
    ∃ o r, divide_limbs_long_1 m (s : Int) ((n + 2 : Nat) : Int) ((k : Int) - 1) rest out = some (o, r) ∧ Ok 4294967296 o ∧ o.length = out.length ∧ Ok 4294967296 r ∧ r.length = n + 2 ∧ W 4294967296 o = W 4294967296 out + W 4294967296 rest / W 4294967296 m ∧ W 4294967296 r = W 4294967296 rest % W 4294967296 m / 2 ^ s
  | 0, rest, out, hk, hr, ho, hoo, hko, hol, hz, hw => by
    have hVlt := W_lt hm
    rw [hmn] at hVlt
    have hw' : W 4294967296 rest < W 4294967296 m := by simpa using hw
    obtain ⟨r, h, h1, h2, h3⟩ := divBack (rest.take (n + 2)) (ho.take _) (by simp; omega) s hs
    refine ⟨out, r, ?_, hoo, rfl, h2, by rw [h1]; simp; omega, by rw [Nat.div_eq_of_lt hw']; rfl, ?_⟩
    · rw [divide_limbs_long_1_eq, cF (decide_eq_false (by omega)), cT (inC (by omega)), List.drop_zero, Int.toNat_natCast, Nat.sub_zero, h]; rfl
    · rw [h3, W_take_lt (by decide) ho _ (by omega), Nat.mod_eq_of_lt hw']
  | k + 1, rest, out, hk, hr, ho, hoo, hko, hol, hz, hw => by
    obtain ⟨q, hq, hg, hk1a, hk1b, hUT, hDpos⟩ := divDigit m rest hm n k hmn hh ho (by omega) hw
    have hwD : W 4294967296 rest < W 4294967296 m * 4294967296 ^ k * 4294967296 := by rw [Nat.pow_succ, ← Nat.mul_assoc] at hw; exact hw
    have d0 := ho.getD (by decide) (k + n)
    have d1 := ho.getD (by decide) (k + n + 1)
    have d2 := ho.getD (by decide) (k + n + 2)
    have m0 := hm.getD (by decide) n
    have m1 := hm.getD (by decide) (n + 1)
    have hVpos : 0 < W 4294967296 m := Nat.pos_of_mul_pos_right hDpos
    have hQ1 := Nat.div_mul_le_self (W 4294967296 rest) (W 4294967296 m * 4294967296 ^ k)
    have hQ2 : W 4294967296 rest < (W 4294967296 rest / (W 4294967296 m * 4294967296 ^ k) + 1) * (W 4294967296 m * 4294967296 ^ k) := by
      have h1 := Nat.div_add_mod (W 4294967296 rest) (W 4294967296 m * 4294967296 ^ k)
      have h2 := Nat.mod_lt (W 4294967296 rest) hDpos
      rw [Nat.succ_mul, Nat.mul_comm (W 4294967296 rest / _)]
      omega
    generalize W 4294967296 rest / (W 4294967296 m * 4294967296 ^ k) = Q at *
    have hlr : k + m.length < rest.length := by omega
    -- what comes when the right digit is known
    have done : ∀ R : List Int, R.length = rest.length → Ok 4294967296 R → W 4294967296 R + Q * (W 4294967296 m * 4294967296 ^ k) = W 4294967296 rest → ∃ o r, (cond (decide (0 ≤ (k : Int)) && decide ((k : Int) < (out.length : Int))) (divide_limbs_long_1 m (s : Int) ((n + 2 : Nat) : Int) (IntKind.i64.wrap ((k : Int) - 1)) R (out.set (k : Int).toNat (IntKind.u32.wrap (Q : Int)))) none) = some (o, r) ∧
        Ok 4294967296 o ∧ o.length = out.length ∧ Ok 4294967296 r ∧ r.length = n + 2 ∧ W 4294967296 o = W 4294967296 out + W 4294967296 rest / W 4294967296 m ∧ W 4294967296 r = W 4294967296 rest % W 4294967296 m / 2 ^ s := by
      intro R hRl hRo hRw
      have hQB : Q < 4294967296 := by omega
      obtain ⟨o, r, g, g1, g2, g3, g4, g5, g6⟩ := divLong1 m hm n hmn hn (by omega) s hs Lr hL k R (out.set k (Q : Int)) (by omega) (by omega) hRo (hoo.set _ (by omega) (by omega)) (by simp; omega) (by simp; omega)
        (fun p hp => by rw [getD_set_ne _ _ _ _ (by omega)]; exact hz p (by omega)) (by rw [Nat.succ_mul] at hQ2; omega)
      have hd := div_of_sub (W 4294967296 rest) (W 4294967296 R) (W 4294967296 m) (4294967296 ^ k * Q) hVpos (by rw [← hRw, Nat.mul_left_comm Q, Nat.mul_comm Q])
      have hset := W_set' 4294967296 out k Q (by omega)
      rw [hz k (by omega)] at hset
      simp only [Int.toNat_zero, Nat.mul_zero, Nat.add_zero] at hset
      refine ⟨o, r, ?_, g1, by rw [g2]; simp, g3, g4, by rw [g5, hset, hd.1]; omega, by rw [g6, hd.2]⟩
      rw [cT (ix (by omega)), wrap64 (by omega) (by omega), Int.toNat_natCast, wrapU32 (by omega) (by omega)]
      exact g
    have above : ∀ R : List Int, Ok 4294967296 R → (∀ p, k + m.length < p → R.getD p 0 = rest.getD p 0) → W 4294967296 R < 4294967296 ^ (k + m.length + 1) := fun R hRo hR =>
      W_lt_above (by decide) hRo _ fun p hp => by rw [hR p (by omega)]; exact W_above (by decide) ho (k + n + 3) p hUT (by omega)
    obtain ⟨rest', neg, t1, t2, t3, t4, t5, t6⟩ := divTake m hm q hq k rest out m (s : Int) ((n + 2 : Nat) : Int) (k : Int) (q : Int) hlr (by omega) m.length 0 0 0 rest (Nat.zero_add _) rfl ho (by omega) (by omega) (fun p _ => rfl) (by simp [W])
    have t6' : divide_limbs_long_3 m (q : Int) (k : Int) 0 0 (m.length : Int) 0 rest out m (s : Int) ((n + 2 : Nat) : Int) (k : Int) (q : Int) = _ := t6
    have a1 := above rest' t2 t3
    rw [show 4294967296 ^ k * (q * W 4294967296 m) = q * (W 4294967296 m * 4294967296 ^ k) by rw [Nat.mul_left_comm, Nat.mul_comm (4294967296 ^ k)]] at t5
    rw [divide_limbs_long_1_eq, show (((k + 1 : Nat) : Int) - 1) = (k : Int) by omega, cT (decide_eq_true (by omega)), wA (by omega),
      show IntKind.i64.wrap (((k + (n + 2) : Nat) : Int) - 1) = ((k + n + 1 : Nat) : Int) by rw [wrap64 (by omega) (by omega)]; omega,
      show IntKind.i64.wrap (((k + (n + 2) : Nat) : Int) - 2) = ((k + n : Nat) : Int) by rw [wrap64 (by omega) (by omega)]; omega,
      show IntKind.i64.wrap (((n + 2 : Nat) : Int) - 1) = ((n + 1 : Nat) : Int) by rw [wrap64 (by omega) (by omega)]; omega,
      show IntKind.i64.wrap (((n + 2 : Nat) : Int) - 2) = ((n : Nat) : Int) by rw [wrap64 (by omega) (by omega)]; omega,
      cT (ix (by omega)), cT (ix (by omega)), cT (ix (by omega)), cT (ix (by omega)), cT (ix (by omega)), Int.toNat_natCast, Int.toNat_natCast, Int.toNat_natCast, Int.toNat_natCast, Int.toNat_natCast, show k + (n + 2) = k + n + 2 by omega,
      wrapU64 (n := rest.getD (k + n + 2) 0) (by omega) (by omega), wrapU64 (n := rest.getD (k + n + 1) 0) (by omega) (by omega), wrapU64 (n := rest.getD (k + n) 0) (by omega) (by omega), wrapU64 (n := m.getD (n + 1) 0) (by omega) (by omega), wrapU64 (n := m.getD n 0) (by omega) (by omega),
      hg, Option.bind_some, divide_limbs_long_2_eq, t6']
    rcases Nat.lt_or_ge neg 1 with h0 | h1
    · obtain rfl : neg = 0 := by omega
      rw [cF (decide_eq_false (by omega))]
      rw [Nat.mul_zero, Nat.add_zero] at t5
      have : q ≤ Q := le_of_mul_lt (U := W 4294967296 rest) (by omega) hQ2
      obtain rfl : q = Q := by omega
      exact done rest' (by omega) t2 t5
    · obtain rfl : neg = 1 := by omega
      rw [cT (decide_eq_true rfl)]
      rw [Nat.mul_one] at t5
      have hqQ : q = Q + 1 := by
        rcases Nat.lt_or_ge Q q with h | h
        · omega
        · have := Nat.mul_le_mul_right (W 4294967296 m * 4294967296 ^ k) h
          omega
      obtain ⟨R, o, v1, v2, v3, v4, v5, v6⟩ := divGive m hm k rest' out m (s : Int) ((n + 2 : Nat) : Int) (k : Int) (Q : Int) (by omega) (by omega) m.length 0 0 rest' (Nat.zero_add _) rfl t2 (by omega) (fun p _ => rfl) (by simp [W])
      have v6' : divide_limbs_long_5 m (k : Int) 0 (m.length : Int) 0 rest' out m (s : Int) ((n + 2 : Nat) : Int) (k : Int) (Q : Int) = _ := v6
      have a2 := above R v2 (fun p hp => by rw [v3 p hp, t3 p hp])
      rw [divide_limbs_long_4_eq, show IntKind.u64.wrap ((q : Int) - 1) = (Q : Int) by rw [wrapU64 (by omega) (by omega)]; omega, v6']
      rw [Nat.mul_comm (4294967296 ^ k)] at v5
      rw [hqQ, Nat.succ_mul] at t5
      rcases Nat.lt_or_ge o 1 with h | h
      · obtain rfl : o = 0 := by omega
        exfalso
        omega
      · obtain rfl : o = 1 := by omega
        rw [Nat.mul_one] at v5
        exact done R (by omega) v2 (by omega)
theorem blen_bounds (h : Nat) : h < 2 ^ blen h ∧ (h ≠ 0 → 2 ^ blen h ≤ 2 * h) := by
  induction h using Nat.strongRecOn with
  | _ h ih =>
    by_cases h0 : h = 0
    · subst h0; simp [blen_zero]
    · obtain ⟨i1, i2⟩ := ih (h / 2) (by omega)
      rw [blen_pos h0, Nat.pow_succ]
      refine ⟨by omega, fun _ => ?_⟩
      by_cases h1 : h / 2 = 0
      · rw [h1, blen_zero]; omega
      · have := i2 h1; omega
theorem divLong (a b : Nat) (hb : 2 ≤ (limbs b).length) (hab : b ≤ a) (ha : (limbs a).length ≤ 500000000) : ∃ o r, divide_limbs_long (limbs a) (limbs b) = some (o, r) ∧ Ok 4294967296 o ∧ o.length ≤ 1000000000 ∧ Ok 4294967296 r ∧ r.length ≤ 1000000000 ∧ W 4294967296 o = a / b ∧ W 4294967296 r = a % b := by
  obtain ⟨n, hn⟩ : ∃ n, (limbs b).length = n + 2 := ⟨(limbs b).length - 2, by omega⟩
  have hle : (limbs b).length ≤ (limbs a).length := by
    rcases Nat.lt_or_ge (limbs a).length (limbs b).length with h | h
    · have := limbs_len_lt h; omega
    · exact h
  have hb0 : b ≠ 0 := fun e => by rw [e, limbs_zero] at hb; simp at hb
  have hlow := limbs_low hb0
  have hbl := lt_limbs b
  have hal := lt_limbs a
  rw [hn, show n + 2 - 1 = n + 1 by omega] at hlow
  rw [hn] at hbl
  have hx := (limbs_ok b).getD (by decide) (n + 1)
  have hd := W_digit (by decide) (limbs_ok b) (n + 1)
  rw [W_limbs] at hd
  have hlt : b / 4294967296 ^ (n + 1) < 4294967296 := (Nat.div_lt_iff_lt_mul (Nat.pow_pos (by decide))).2 (by rw [Nat.mul_comm, ← Nat.pow_succ]; exact hbl)
  rw [Nat.mod_eq_of_lt hlt] at hd
  have hpos : 0 < b / 4294967296 ^ (n + 1) := Nat.div_pos hlow (Nat.pow_pos (by decide))
  have hda := Nat.div_add_mod b (4294967296 ^ (n + 1))
  have hma := Nat.mod_lt b (Nat.pow_pos (n := n + 1) (show 0 < 4294967296 by decide))
  have n0 : (limbs b).getD (n + 1) 0 = (((limbs b).getD (n + 1) 0).toNat : Int) := by omega
  rw [hd] at n0
  generalize b / 4294967296 ^ (n + 1) = h at *
  obtain ⟨hb1, hb2⟩ := blen_bounds h
  have hb2 := hb2 (by omega)
  have hb32 := blen_le h (by omega)
  have hb3 : blen h ≠ 0 := fun e => by rw [e] at hb1; simp at hb1; omega
  obtain ⟨s, hs⟩ : ∃ s, s + blen h = 32 := ⟨32 - blen h, by omega⟩
  have hp : 2 ^ s * 2 ^ blen h = 4294967296 := by rw [← Nat.pow_add, hs]
  have hsp : 0 < 2 ^ s := Nat.two_pow_pos s
  have p1 : (h + 1) * 2 ^ s ≤ 4294967296 := by rw [← hp, Nat.mul_comm]; exact Nat.mul_le_mul_left _ hb1
  have p2 : 2147483648 ≤ h * 2 ^ s := by
    have : 2 ^ s * 2 ^ blen h ≤ 2 ^ s * (2 * h) := Nat.mul_le_mul_left _ hb2
    rw [hp, Nat.mul_left_comm, Nat.mul_comm (2 ^ s)] at this
    omega
  have hlz : math_bits_LeadingZeros32 ((limbs b).getD (n + 1) 0) = some (s : Int) := by
    refine (top_call ..).trans ?_
    show lz32F ((limbs b).getD (n + 1) 0) = _
    unfold lz32F
    rw [n0, cT (by simp; omega), Int.toNat_natCast, bitLen_blen h (by omega)]
    congr 1
    omega
  obtain ⟨R, e1, q1, q2, q3⟩ := divShift (limbs a) (limbs_ok a) (by omega) s (by omega)
  obtain ⟨M, e2, r1, r2, r3⟩ := divShift (limbs b) (limbs_ok b) (by omega) s (by omega)
  rw [W_limbs] at q3 r3
  have hbs : b * 2 ^ s < 4294967296 ^ (n + 2) := by
    have h1 : b < 4294967296 ^ (n + 1) * (h + 1) := by rw [Nat.mul_succ]; omega
    have h2 : b * 2 ^ s < 4294967296 ^ (n + 1) * (h + 1) * 2 ^ s := Nat.mul_lt_mul_of_pos_right h1 hsp
    rw [Nat.mul_assoc] at h2
    have h3 := Nat.mul_le_mul_left (4294967296 ^ (n + 1)) p1
    rw [Nat.pow_succ]
    omega
  have hMW : W 4294967296 (M.take (n + 2)) = b * 2 ^ s := by rw [← r3]; exact W_take_lt (by decide) r2 _ (by rw [r3]; exact hbs)
  have hMl : (M.take (n + 2)).length = n + 2 := by simp; omega
  have hhigh : 2147483648 ≤ ((M.take (n + 2)).getD (n + 1) 0).toNat := by
    rw [W_digit (by decide) (r2.take _), hMW, Nat.mod_eq_of_lt ((Nat.div_lt_iff_lt_mul (Nat.pow_pos (by decide))).2 (by rw [Nat.mul_comm (4294967296), ← Nat.pow_succ]; exact hbs)), Nat.le_div_iff_mul_le (Nat.pow_pos (by decide))]
    have h1 : 4294967296 ^ (n + 1) * h ≤ b := by omega
    have h2 := Nat.mul_le_mul_right (2 ^ s) h1
    have h3 := Nat.mul_le_mul_left (4294967296 ^ (n + 1)) p2
    rw [Nat.mul_assoc] at h2
    rw [Nat.mul_comm]
    omega
  obtain ⟨la, hla⟩ : ∃ la, (limbs a).length = la + (n + 2) := ⟨(limbs a).length - (n + 2), by omega⟩
  have hrest : W 4294967296 R < W 4294967296 (M.take (n + 2)) * 4294967296 ^ (la + 1) := by
    rw [q3, hMW, Nat.mul_right_comm]
    refine Nat.mul_lt_mul_of_pos_right ?_ hsp
    refine Nat.lt_of_lt_of_le hal ?_
    rw [hla, show la + (n + 2) = (n + 1) + (la + 1) by omega, Nat.pow_add]
    exact Nat.mul_le_mul_right _ (by omega)
  obtain ⟨o, r, g, g1, g2, g3, g4, g5, g6⟩ := divLong1 (M.take (n + 2)) (r2.take _) n hMl (by omega) hhigh s (by omega) (la + (n + 2) + 1) (by omega) (la + 1) R (List.replicate (la + 1) 0) (by omega) (by omega) q2 (Ok.zeros (by decide) _) (by simp) (by simp) (fun p _ => zeros_getD _ _) hrest
  rw [q3, hMW] at g5 g6
  refine ⟨o, r, ?_, g1, by rw [g2]; simp; omega, g3, by omega, ?_, ?_⟩
  · rw [divide_limbs_long_eq, hn, hla, show IntKind.i64.wrap (((n + 2 : Nat) : Int) - 1) = ((n + 1 : Nat) : Int) by rw [wrap64 (by omega) (by omega)]; omega, cT (ix (by omega)), Int.toNat_natCast, hlz, Option.bind_some, e1, Option.bind_some, e2, Option.bind_some, cT (inC (by omega))]
    simp only [Int.toNat_natCast, Nat.sub_zero, Int.sub_zero, List.drop_zero]
    rw [show IntKind.i64.wrap (((la + (n + 2) : Nat) : Int) - ((n + 2 : Nat) : Int)) = ((la : Nat) : Int) by rw [wrap64 (by omega) (by omega)]; omega, wS (by omega), cT (by simp; omega), Int.toNat_natCast]
    rw [show (((la + 1 : Nat) : Int) - 1) = (la : Int) by omega] at g
    exact g
  · rw [g5, W_zeros, Nat.zero_add, Nat.mul_div_mul_right _ _ hsp]
  · rw [g6, Nat.mul_mod_mul_right, Nat.mul_div_cancel _ hsp]
theorem divDivMod (a b : List UInt8) (ha : a.length ≤ 1000000000) (hb : b.length ≤ 1000000000) : divide_DivMod a b = some (divmod (val a) (val b)) := by
  have la := limbs_val a
  have lb := limbs_val b
  rw [divide_DivMod_eq, divRead a ha, Option.bind_some, divRead b hb, Option.bind_some, divmod]
  by_cases h0 : val b = 0
  · rw [if_pos h0, cT (decide_eq_true (by rw [limbs_nil.2 h0]; rfl))]
  · have hn0 : (limbs (val b)).length ≠ 0 := fun e => h0 (limbs_nil.1 e)
    rw [if_neg h0, cF (decide_eq_false (by omega)), natCmp a b (by omega) (by omega), Option.bind_some]
    by_cases hlt : val a < val b
    · rw [cT (decide_eq_true (sgnv_neg.2 hlt)), natTrim, Option.bind_some, Nat.div_eq_of_lt hlt, Nat.mod_eq_of_lt hlt, nat_zero]
    · have hns : ¬ sgnv (val a) (val b) < 0 := fun h => hlt (sgnv_neg.1 h)
      rw [cF (decide_eq_false hns)]
      by_cases h1 : (limbs (val b)).length = 1
      · have hbb := lt_limbs (val b)
        rw [h1, Nat.pow_one] at hbb
        have hg : (limbs (val b)).getD 0 0 = ((val b : Nat) : Int) := by rw [limbs_getD]; simp only [Nat.pow_zero, Nat.div_one]; rw [Nat.mod_eq_of_lt hbb]
        obtain ⟨out, e, o1, o2, o3⟩ := divShort (limbs (val a)) (val b) (by omega) hbb (limbs_ok _) (by omega)
        rw [W_limbs] at e o3
        have hm := Nat.mod_lt (val a) (show 0 < val b by omega)
        rw [cT (decide_eq_true (by omega)), cT (by rw [h1]; rfl), hg, e, Option.bind_some, divide_DivMod_1_eq, divText out (by omega) o1, Option.bind_some, divText _ (by simp) ((Ok.nil _).cons (Int.natCast_nonneg _) (by omega)), Option.bind_some, o3, W, W, Nat.mul_zero, Nat.add_zero, Int.toNat_natCast]
      · obtain ⟨o, r, e, o1, o2, o3, o4, o5, o6⟩ := divLong (val a) (val b) (by omega) (by omega) (by omega)
        rw [cF (decide_eq_false (by omega)), e, Option.bind_some, divide_DivMod_1_eq, divText o o2 o1, Option.bind_some, divText r o4 o3, Option.bind_some, o5, o6]
end Go.Proofs.YtcdcijhfjiahkaaDoorR.P
