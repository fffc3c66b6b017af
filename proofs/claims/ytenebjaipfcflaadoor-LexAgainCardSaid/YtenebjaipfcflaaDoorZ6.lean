/- Part 6 of the proof: the machine, the tables and the pure laws that the last text joins. -/
import Derived.Test.YtenebjaipfcflaaDoorZ5
import Derived.Test.YtenebjaipfcflaaDoorZ4
import Derived.WalkKit
import Derived.BigCall
import Derived.Maps.AppendAt
import Derived.Shelf.Strings.BuilderK
import Derived.ScopeJumps
import Derived.WalkMore
import Derived.Laws.CopyOwn
import Derived.Test.YtenebjaipfcflaaDoorProg
/- Division by more than one limb, and DivMod: the whole. -/
set_option linter.unusedVariables false
set_option linter.unusedSimpArgs false
namespace Go.Proofs.YtenebjaipfcflaaDoor.P
open Go Go.Proofs.YtenebjaipfcflaaDoor.K Go.Proofs.YtenebjaipfcflaaDoor.C
theorem div_of_sub (U R V E : Nat) (hV : 0 < V) (h : U = R + V * E) : U / V = R / V + E ∧ U % V = R % V := by
  subst h
  exact ⟨Nat.add_mul_div_left _ _ hV, Nat.add_mul_mod_self_left ..⟩
theorem le_of_mul_lt {q Q D U : Nat} (h : q * D ≤ U) (h2 : U < (Q + 1) * D) : q ≤ Q := by
  have : q * D < (Q + 1) * D := Nat.lt_of_le_of_lt h h2
  exact Nat.lt_succ_iff.1 (Nat.lt_of_mul_lt_mul_right this)
theorem top_le (top next third high low P U' V' : Nat) (h : ((top * 4294967296 + next) * 4294967296 + third) * P + U' < ((high * 4294967296 + low) * P + V') * 4294967296) (hV : V' < P) (hlow : low < 4294967296) : top ≤ high := by
  have h1 : ((top * 4294967296 + next) * 4294967296 + third) * P < ((high * 4294967296 + low + 1) * 4294967296) * P := by
    have e : ((high * 4294967296 + low + 1) * 4294967296) * P = ((high * 4294967296 + low) * P + P) * 4294967296 := by rw [Nat.mul_right_comm, Nat.succ_mul]
    rw [e]; omega
  have := Nat.lt_of_mul_lt_mul_right h1
  omega
theorem eU_plain (U P t n p B : Nat) : U + P * t + P * B * n + P * B * B * p = ((p * B + n) * B + t) * P + U := by grind
theorem eD_plain (V Pk Pn l h B : Nat) : (V + Pn * l + Pn * B * h) * Pk = (h * B + l) * (Pk * Pn) + V * Pk := by grind
set_option maxHeartbeats 1000000 in
theorem divDigit (m rest : List Int) (hm : Ok 4294967296 m) (n k : Nat) (hmn : m.length = n + 2) (hh : 2147483648 ≤ (m.getD (n + 1) 0).toNat) (ho : Ok 4294967296 rest) (hr : k + n + 2 < rest.length) (hw : W 4294967296 rest < W 4294967296 m * 4294967296 ^ (k + 1)) :
    ∃ q : Nat, q < 4294967296 ∧ divide_guess (rest.getD (k + n + 2) 0) (rest.getD (k + n + 1) 0) (rest.getD (k + n) 0) (m.getD (n + 1) 0) (m.getD n 0) = some (q : Int) ∧
      W 4294967296 rest / (W 4294967296 m * 4294967296 ^ k) ≤ q ∧ q ≤ W 4294967296 rest / (W 4294967296 m * 4294967296 ^ k) + 1 ∧ W 4294967296 rest < 4294967296 ^ (k + n + 3) ∧ 0 < W 4294967296 m * 4294967296 ^ k := by
  have hVlt := W_lt hm
  rw [hmn] at hVlt
  have d0 := ho.getD (by decide) (k + n)
  have d1 := ho.getD (by decide) (k + n + 1)
  have d2 := ho.getD (by decide) (k + n + 2)
  have m0 := hm.getD (by decide) n
  have m1 := hm.getD (by decide) (n + 1)
  have hUT : W 4294967296 rest < 4294967296 ^ (k + n + 3) := by
    refine Nat.lt_of_lt_of_le hw ?_
    rw [show k + n + 3 = (n + 2) + (k + 1) by omega, Nat.pow_add 4294967296 (n + 2) (k + 1)]
    exact Nat.mul_le_mul_right _ (Nat.le_of_lt hVlt)
  have hUs := W_take_lt (by decide) ho (k + n + 3) hUT
  rw [W_take, W_take, W_take] at hUs
  have hVs := W_all 4294967296 m (n + 2) (by omega)
  rw [W_take, W_take] at hVs
  have hU' := W_lt (ho.take (k + n))
  rw [List.length_take, Nat.min_eq_left (by omega)] at hU'
  have hV' := W_lt (hm.take n)
  rw [List.length_take, Nat.min_eq_left (by omega)] at hV'
  have hwD : W 4294967296 rest < W 4294967296 m * 4294967296 ^ k * 4294967296 := by rw [Nat.pow_succ, ← Nat.mul_assoc] at hw; exact hw
  have b0 : rest.getD (k + n) 0 = ((rest.getD (k + n) 0).toNat : Int) := by omega
  have b1 : rest.getD (k + n + 1) 0 = ((rest.getD (k + n + 1) 0).toNat : Int) := by omega
  have b2 : rest.getD (k + n + 2) 0 = ((rest.getD (k + n + 2) 0).toNat : Int) := by omega
  have c0 : m.getD n 0 = ((m.getD n 0).toNat : Int) := by omega
  have c1 : m.getD (n + 1) 0 = ((m.getD (n + 1) 0).toNat : Int) := by omega
  have t1 : (rest.getD (k + n + 1) 0).toNat < 4294967296 := by omega
  have t0 : (rest.getD (k + n) 0).toNat < 4294967296 := by omega
  have l0 : (m.getD n 0).toNat < 4294967296 := by omega
  have l1 : (m.getD (n + 1) 0).toNat < 4294967296 := by omega
  clear d0 d1 d2 m0 m1
  rw [b0, b1, b2, c0, c1]
  clear b0 b1 b2 c0 c1
  generalize W 4294967296 (rest.take (k + n)) = U' at *
  generalize W 4294967296 (m.take n) = V' at *
  generalize (rest.getD (k + n) 0).toNat = third at *
  generalize (rest.getD (k + n + 1) 0).toNat = next at *
  generalize (rest.getD (k + n + 2) 0).toNat = top at *
  generalize (m.getD n 0).toNat = low at *
  generalize (m.getD (n + 1) 0).toNat = high at *
  generalize W 4294967296 rest = U at *
  generalize W 4294967296 m = V at *
  have eP : 4294967296 ^ (k + n) = 4294967296 ^ k * 4294967296 ^ n := Nat.pow_add ..
  have eU : U = ((top * 4294967296 + next) * 4294967296 + third) * 4294967296 ^ (k + n) + U' := by
    rw [← hUs, show 4294967296 ^ (k + n + 2) = 4294967296 ^ (k + n) * 4294967296 * 4294967296 by rw [Nat.pow_succ, Nat.pow_succ], show 4294967296 ^ (k + n + 1) = 4294967296 ^ (k + n) * 4294967296 by rw [Nat.pow_succ]]
    exact eU_plain ..
  have eD : V * 4294967296 ^ k = (high * 4294967296 + low) * 4294967296 ^ (k + n) + V' * 4294967296 ^ k := by
    rw [← hVs, show 4294967296 ^ (n + 1) = 4294967296 ^ n * 4294967296 by rw [Nat.pow_succ], eP]
    exact eD_plain ..
  have hV'' : V' * 4294967296 ^ k < 4294967296 ^ (k + n) := by
    rw [eP, Nat.mul_comm]
    exact Nat.mul_lt_mul_of_pos_left hV' (Nat.pow_pos (by decide))
  have hPpos : 0 < 4294967296 ^ (k + n) := Nat.pow_pos (by decide)
  clear hVs hUs hw hV' eP hVlt
  have hlt := hwD
  rw [eU, eD] at hlt
  rw [eD, eU]
  rw [eU] at hUT
  clear eU eD hwD
  generalize V' * 4294967296 ^ k = V'' at *
  generalize 4294967296 ^ (k + n) = P at *
  have htop := top_le top next third high low _ U' _ hlt hV'' l0
  have hk1 := knuth P _ U' (high * 4294967296 + low) V'' hU' hV'' hlt (by omega)
  have hg := divGuess top next third high low htop t1 t0 l1 hh l0
  exact ⟨_, Nat.lt_of_le_of_lt (Nat.min_le_left _ _) (by decide), hg, hk1.1, hk1.2, hUT, Nat.lt_of_lt_of_le (Nat.mul_pos (by omega) hPpos) (Nat.le_add_right ..)⟩
set_option maxHeartbeats 1000000 in
theorem divLong1 (m : List Int) (hm : Ok 4294967296 m) (n : Nat) (hmn : m.length = n + 2) (hn : n ≤ 900000000) (hh : 2147483648 ≤ (m.getD (n + 1) 0).toNat) (s : Nat) (hs : s < 32) (Lr : Nat) (hL : Lr ≤ 2000000000) : ∀ (k : Nat) (rest out : List Int),
    k + (n + 2) ≤ Lr → rest.length = Lr → Ok 4294967296 rest → Ok 4294967296 out → k ≤ out.length → out.length ≤ Lr → (∀ p, p < k → out.getD p 0 = 0) → W 4294967296 rest < W 4294967296 m * 4294967296 ^ k →
    ∃ o r, divide_limbs_long_1 m (s : Int) ((n + 2 : Nat) : Int) ((k : Int) - 1) rest out = some (o, r) ∧ Ok 4294967296 o ∧ o.length = out.length ∧ Ok 4294967296 r ∧ r.length = n + 2 ∧ W 4294967296 o = W 4294967296 out + W 4294967296 rest / W 4294967296 m ∧ W 4294967296 r = W 4294967296 rest % W 4294967296 m / 2 ^ s
  | 0, rest, out, hk, hr, ho, hoo, hko, hol, hz, hw => by
    have hVlt := W_lt hm
    rw [hmn] at hVlt
    have hw' : W 4294967296 rest < W 4294967296 m := by simpa using hw
    obtain ⟨r, h, h1, h2, h3⟩ := divBack (rest.take (n + 2)) (ho.take _) (by simp; omega) s hs
    refine ⟨out, r, ?_, hoo, rfl, h2, by rw [h1]; simp; omega, by rw [Nat.div_eq_of_lt hw']; rfl, ?_⟩
    · rw [divide_limbs_long_1_eq, cF (decide_eq_false (by omega)), cT (inC (by omega)), List.drop_zero, Int.toNat_natCast, Nat.sub_zero, h]; rfl
    · rw [h3, W_take_lt (by decide) ho _ (by omega), Nat.mod_eq_of_lt hw']
  | k + 1, rest, out, hk, hr, ho, hoo, hko, hol, hz, hw => by
    obtain ⟨q, hq, hg, hk1a, hk1b, hUT, hDpos⟩ := divDigit m rest hm n k hmn hh ho (by omega) hw
    have hwD : W 4294967296 rest < W 4294967296 m * 4294967296 ^ k * 4294967296 := by rw [Nat.pow_succ, ← Nat.mul_assoc] at hw; exact hw
    have d0 := ho.getD (by decide) (k + n)
    have d1 := ho.getD (by decide) (k + n + 1)
    have d2 := ho.getD (by decide) (k + n + 2)
    have m0 := hm.getD (by decide) n
    have m1 := hm.getD (by decide) (n + 1)
    have hVpos : 0 < W 4294967296 m := Nat.pos_of_mul_pos_right hDpos
    have hQ1 := Nat.div_mul_le_self (W 4294967296 rest) (W 4294967296 m * 4294967296 ^ k)
    have hQ2 : W 4294967296 rest < (W 4294967296 rest / (W 4294967296 m * 4294967296 ^ k) + 1) * (W 4294967296 m * 4294967296 ^ k) := by
      have h1 := Nat.div_add_mod (W 4294967296 rest) (W 4294967296 m * 4294967296 ^ k)
      have h2 := Nat.mod_lt (W 4294967296 rest) hDpos
      rw [Nat.succ_mul, Nat.mul_comm (W 4294967296 rest / _)]
      omega
    generalize W 4294967296 rest / (W 4294967296 m * 4294967296 ^ k) = Q at *
    have hlr : k + m.length < rest.length := by omega
    -- what comes when the right digit is known
    have done : ∀ R : List Int, R.length = rest.length → Ok 4294967296 R → W 4294967296 R + Q * (W 4294967296 m * 4294967296 ^ k) = W 4294967296 rest → ∃ o r, (cond (decide (0 ≤ (k : Int)) && decide ((k : Int) < (out.length : Int))) (divide_limbs_long_1 m (s : Int) ((n + 2 : Nat) : Int) (IntKind.i64.wrap ((k : Int) - 1)) R (out.set (k : Int).toNat (IntKind.u32.wrap (Q : Int)))) none) = some (o, r) ∧
        Ok 4294967296 o ∧ o.length = out.length ∧ Ok 4294967296 r ∧ r.length = n + 2 ∧ W 4294967296 o = W 4294967296 out + W 4294967296 rest / W 4294967296 m ∧ W 4294967296 r = W 4294967296 rest % W 4294967296 m / 2 ^ s := by
      intro R hRl hRo hRw
      have hQB : Q < 4294967296 := by omega
      obtain ⟨o, r, g, g1, g2, g3, g4, g5, g6⟩ := divLong1 m hm n hmn hn (by omega) s hs Lr hL k R (out.set k (Q : Int)) (by omega) (by omega) hRo (hoo.set _ (by omega) (by omega)) (by simp; omega) (by simp; omega)
        (fun p hp => by rw [getD_set_ne _ _ _ _ (by omega)]; exact hz p (by omega)) (by rw [Nat.succ_mul] at hQ2; omega)
      have hd := div_of_sub (W 4294967296 rest) (W 4294967296 R) (W 4294967296 m) (4294967296 ^ k * Q) hVpos (by rw [← hRw, Nat.mul_left_comm Q, Nat.mul_comm Q])
      have hset := W_set' 4294967296 out k Q (by omega)
      rw [hz k (by omega)] at hset
      simp only [Int.toNat_zero, Nat.mul_zero, Nat.add_zero] at hset
      refine ⟨o, r, ?_, g1, by rw [g2]; simp, g3, g4, by rw [g5, hset, hd.1]; omega, by rw [g6, hd.2]⟩
      rw [cT (ix (by omega)), wrap64 (by omega) (by omega), Int.toNat_natCast, wrapU32 (by omega) (by omega)]
      exact g
    have above : ∀ R : List Int, Ok 4294967296 R → (∀ p, k + m.length < p → R.getD p 0 = rest.getD p 0) → W 4294967296 R < 4294967296 ^ (k + m.length + 1) := fun R hRo hR =>
      W_lt_above (by decide) hRo _ fun p hp => by rw [hR p (by omega)]; exact W_above (by decide) ho (k + n + 3) p hUT (by omega)
    obtain ⟨rest', neg, t1, t2, t3, t4, t5, t6⟩ := divTake m hm q hq k rest out m (s : Int) ((n + 2 : Nat) : Int) (k : Int) (q : Int) hlr (by omega) m.length 0 0 0 rest (Nat.zero_add _) rfl ho (by omega) (by omega) (fun p _ => rfl) (by simp [W])
    have t6' : divide_limbs_long_3 m (q : Int) (k : Int) 0 0 (m.length : Int) 0 rest out m (s : Int) ((n + 2 : Nat) : Int) (k : Int) (q : Int) = _ := t6
    have a1 := above rest' t2 t3
    rw [show 4294967296 ^ k * (q * W 4294967296 m) = q * (W 4294967296 m * 4294967296 ^ k) by rw [Nat.mul_left_comm, Nat.mul_comm (4294967296 ^ k)]] at t5
    rw [divide_limbs_long_1_eq, show (((k + 1 : Nat) : Int) - 1) = (k : Int) by omega, cT (decide_eq_true (by omega)), wA (by omega),
      show IntKind.i64.wrap (((k + (n + 2) : Nat) : Int) - 1) = ((k + n + 1 : Nat) : Int) by rw [wrap64 (by omega) (by omega)]; omega,
      show IntKind.i64.wrap (((k + (n + 2) : Nat) : Int) - 2) = ((k + n : Nat) : Int) by rw [wrap64 (by omega) (by omega)]; omega,
      show IntKind.i64.wrap (((n + 2 : Nat) : Int) - 1) = ((n + 1 : Nat) : Int) by rw [wrap64 (by omega) (by omega)]; omega,
      show IntKind.i64.wrap (((n + 2 : Nat) : Int) - 2) = ((n : Nat) : Int) by rw [wrap64 (by omega) (by omega)]; omega,
      cT (ix (by omega)), cT (ix (by omega)), cT (ix (by omega)), cT (ix (by omega)), cT (ix (by omega)), Int.toNat_natCast, Int.toNat_natCast, Int.toNat_natCast, Int.toNat_natCast, Int.toNat_natCast, show k + (n + 2) = k + n + 2 by omega,
      wrapU64 (n := rest.getD (k + n + 2) 0) (by omega) (by omega), wrapU64 (n := rest.getD (k + n + 1) 0) (by omega) (by omega), wrapU64 (n := rest.getD (k + n) 0) (by omega) (by omega), wrapU64 (n := m.getD (n + 1) 0) (by omega) (by omega), wrapU64 (n := m.getD n 0) (by omega) (by omega),
      hg, Option.bind_some, divide_limbs_long_2_eq, t6']
    rcases Nat.lt_or_ge neg 1 with h0 | h1
    · obtain rfl : neg = 0 := by omega
      rw [cF (decide_eq_false (by omega))]
      rw [Nat.mul_zero, Nat.add_zero] at t5
      have : q ≤ Q := le_of_mul_lt (U := W 4294967296 rest) (by omega) hQ2
      obtain rfl : q = Q := by omega
      exact done rest' (by omega) t2 t5
    · obtain rfl : neg = 1 := by omega
      rw [cT (decide_eq_true rfl)]
      rw [Nat.mul_one] at t5
      have hqQ : q = Q + 1 := by
        rcases Nat.lt_or_ge Q q with h | h
        · omega
        · have := Nat.mul_le_mul_right (W 4294967296 m * 4294967296 ^ k) h
          omega
      obtain ⟨R, o, v1, v2, v3, v4, v5, v6⟩ := divGive m hm k rest' out m (s : Int) ((n + 2 : Nat) : Int) (k : Int) (Q : Int) (by omega) (by omega) m.length 0 0 rest' (Nat.zero_add _) rfl t2 (by omega) (fun p _ => rfl) (by simp [W])
      have v6' : divide_limbs_long_5 m (k : Int) 0 (m.length : Int) 0 rest' out m (s : Int) ((n + 2 : Nat) : Int) (k : Int) (Q : Int) = _ := v6
      have a2 := above R v2 (fun p hp => by rw [v3 p hp, t3 p hp])
      rw [divide_limbs_long_4_eq, show IntKind.u64.wrap ((q : Int) - 1) = (Q : Int) by rw [wrapU64 (by omega) (by omega)]; omega, v6']
      rw [Nat.mul_comm (4294967296 ^ k)] at v5
      rw [hqQ, Nat.succ_mul] at t5
      rcases Nat.lt_or_ge o 1 with h | h
      · obtain rfl : o = 0 := by omega
        exfalso
        omega
      · obtain rfl : o = 1 := by omega
        rw [Nat.mul_one] at v5
        exact done R (by omega) v2 (by omega)
theorem blen_bounds (h : Nat) : h < 2 ^ blen h ∧ (h ≠ 0 → 2 ^ blen h ≤ 2 * h) := by
  induction h using Nat.strongRecOn with
  | _ h ih =>
    by_cases h0 : h = 0
    · subst h0; simp [blen_zero]
    · obtain ⟨i1, i2⟩ := ih (h / 2) (by omega)
      rw [blen_pos h0, Nat.pow_succ]
      refine ⟨by omega, fun _ => ?_⟩
      by_cases h1 : h / 2 = 0
      · rw [h1, blen_zero]; omega
      · have := i2 h1; omega
theorem divLong (a b : Nat) (hb : 2 ≤ (limbs b).length) (hab : b ≤ a) (ha : (limbs a).length ≤ 500000000) : ∃ o r, divide_limbs_long (limbs a) (limbs b) = some (o, r) ∧ Ok 4294967296 o ∧ o.length ≤ 1000000000 ∧ Ok 4294967296 r ∧ r.length ≤ 1000000000 ∧ W 4294967296 o = a / b ∧ W 4294967296 r = a % b := by
  obtain ⟨n, hn⟩ : ∃ n, (limbs b).length = n + 2 := ⟨(limbs b).length - 2, by omega⟩
  have hle : (limbs b).length ≤ (limbs a).length := by
    rcases Nat.lt_or_ge (limbs a).length (limbs b).length with h | h
    · have := limbs_len_lt h; omega
    · exact h
  have hb0 : b ≠ 0 := fun e => by rw [e, limbs_zero] at hb; simp at hb
  have hlow := limbs_low hb0
  have hbl := lt_limbs b
  have hal := lt_limbs a
  rw [hn, show n + 2 - 1 = n + 1 by omega] at hlow
  rw [hn] at hbl
  have hx := (limbs_ok b).getD (by decide) (n + 1)
  have hd := W_digit (by decide) (limbs_ok b) (n + 1)
  rw [W_limbs] at hd
  have hlt : b / 4294967296 ^ (n + 1) < 4294967296 := (Nat.div_lt_iff_lt_mul (Nat.pow_pos (by decide))).2 (by rw [Nat.mul_comm, ← Nat.pow_succ]; exact hbl)
  rw [Nat.mod_eq_of_lt hlt] at hd
  have hpos : 0 < b / 4294967296 ^ (n + 1) := Nat.div_pos hlow (Nat.pow_pos (by decide))
  have hda := Nat.div_add_mod b (4294967296 ^ (n + 1))
  have hma := Nat.mod_lt b (Nat.pow_pos (n := n + 1) (show 0 < 4294967296 by decide))
  have n0 : (limbs b).getD (n + 1) 0 = (((limbs b).getD (n + 1) 0).toNat : Int) := by omega
  rw [hd] at n0
  generalize b / 4294967296 ^ (n + 1) = h at *
  obtain ⟨hb1, hb2⟩ := blen_bounds h
  have hb2 := hb2 (by omega)
  have hb32 := blen_le h (by omega)
  have hb3 : blen h ≠ 0 := fun e => by rw [e] at hb1; simp at hb1; omega
  obtain ⟨s, hs⟩ : ∃ s, s + blen h = 32 := ⟨32 - blen h, by omega⟩
  have hp : 2 ^ s * 2 ^ blen h = 4294967296 := by rw [← Nat.pow_add, hs]
  have hsp : 0 < 2 ^ s := Nat.two_pow_pos s
  have p1 : (h + 1) * 2 ^ s ≤ 4294967296 := by rw [← hp, Nat.mul_comm]; exact Nat.mul_le_mul_left _ hb1
  have p2 : 2147483648 ≤ h * 2 ^ s := by
    have : 2 ^ s * 2 ^ blen h ≤ 2 ^ s * (2 * h) := Nat.mul_le_mul_left _ hb2
    rw [hp, Nat.mul_left_comm, Nat.mul_comm (2 ^ s)] at this
    omega
  have hlz : math_bits_LeadingZeros32 ((limbs b).getD (n + 1) 0) = some (s : Int) := by
    refine (top_call ..).trans ?_
    show lz32F ((limbs b).getD (n + 1) 0) = _
    unfold lz32F
    rw [n0, cT (by simp; omega), Int.toNat_natCast, bitLen_blen h (by omega)]
    congr 1
    omega
  obtain ⟨R, e1, q1, q2, q3⟩ := divShift (limbs a) (limbs_ok a) (by omega) s (by omega)
  obtain ⟨M, e2, r1, r2, r3⟩ := divShift (limbs b) (limbs_ok b) (by omega) s (by omega)
  rw [W_limbs] at q3 r3
  have hbs : b * 2 ^ s < 4294967296 ^ (n + 2) := by
    have h1 : b < 4294967296 ^ (n + 1) * (h + 1) := by rw [Nat.mul_succ]; omega
    have h2 : b * 2 ^ s < 4294967296 ^ (n + 1) * (h + 1) * 2 ^ s := Nat.mul_lt_mul_of_pos_right h1 hsp
    rw [Nat.mul_assoc] at h2
    have h3 := Nat.mul_le_mul_left (4294967296 ^ (n + 1)) p1
    rw [Nat.pow_succ]
    omega
  have hMW : W 4294967296 (M.take (n + 2)) = b * 2 ^ s := by rw [← r3]; exact W_take_lt (by decide) r2 _ (by rw [r3]; exact hbs)
  have hMl : (M.take (n + 2)).length = n + 2 := by simp; omega
  have hhigh : 2147483648 ≤ ((M.take (n + 2)).getD (n + 1) 0).toNat := by
    rw [W_digit (by decide) (r2.take _), hMW, Nat.mod_eq_of_lt ((Nat.div_lt_iff_lt_mul (Nat.pow_pos (by decide))).2 (by rw [Nat.mul_comm (4294967296), ← Nat.pow_succ]; exact hbs)), Nat.le_div_iff_mul_le (Nat.pow_pos (by decide))]
    have h1 : 4294967296 ^ (n + 1) * h ≤ b := by omega
    have h2 := Nat.mul_le_mul_right (2 ^ s) h1
    have h3 := Nat.mul_le_mul_left (4294967296 ^ (n + 1)) p2
    rw [Nat.mul_assoc] at h2
    rw [Nat.mul_comm]
    omega
  obtain ⟨la, hla⟩ : ∃ la, (limbs a).length = la + (n + 2) := ⟨(limbs a).length - (n + 2), by omega⟩
  have hrest : W 4294967296 R < W 4294967296 (M.take (n + 2)) * 4294967296 ^ (la + 1) := by
    rw [q3, hMW, Nat.mul_right_comm]
    refine Nat.mul_lt_mul_of_pos_right ?_ hsp
    refine Nat.lt_of_lt_of_le hal ?_
    rw [hla, show la + (n + 2) = (n + 1) + (la + 1) by omega, Nat.pow_add]
    exact Nat.mul_le_mul_right _ (by omega)
  obtain ⟨o, r, g, g1, g2, g3, g4, g5, g6⟩ := divLong1 (M.take (n + 2)) (r2.take _) n hMl (by omega) hhigh s (by omega) (la + (n + 2) + 1) (by omega) (la + 1) R (List.replicate (la + 1) 0) (by omega) (by omega) q2 (Ok.zeros (by decide) _) (by simp) (by simp) (fun p _ => zeros_getD _ _) hrest
  rw [q3, hMW] at g5 g6
  refine ⟨o, r, ?_, g1, by rw [g2]; simp; omega, g3, by omega, ?_, ?_⟩
  · rw [divide_limbs_long_eq, hn, hla, show IntKind.i64.wrap (((n + 2 : Nat) : Int) - 1) = ((n + 1 : Nat) : Int) by rw [wrap64 (by omega) (by omega)]; omega, cT (ix (by omega)), Int.toNat_natCast, hlz, Option.bind_some, e1, Option.bind_some, e2, Option.bind_some, cT (inC (by omega))]
    simp only [Int.toNat_natCast, Nat.sub_zero, Int.sub_zero, List.drop_zero]
    rw [show IntKind.i64.wrap (((la + (n + 2) : Nat) : Int) - ((n + 2 : Nat) : Int)) = ((la : Nat) : Int) by rw [wrap64 (by omega) (by omega)]; omega, wS (by omega), cT (by simp; omega), Int.toNat_natCast]
    rw [show (((la + 1 : Nat) : Int) - 1) = (la : Int) by omega] at g
    exact g
  · rw [g5, W_zeros, Nat.zero_add, Nat.mul_div_mul_right _ _ hsp]
  · rw [g6, Nat.mul_mod_mul_right, Nat.mul_div_cancel _ hsp]
theorem divDivMod (a b : List UInt8) (ha : a.length ≤ 1000000000) (hb : b.length ≤ 1000000000) : divide_DivMod a b = some (divmod (val a) (val b)) := by
  have la := limbs_val a
  have lb := limbs_val b
  rw [divide_DivMod_eq, divRead a ha, Option.bind_some, divRead b hb, Option.bind_some, divmod]
  by_cases h0 : val b = 0
  · rw [if_pos h0, cT (decide_eq_true (by rw [limbs_nil.2 h0]; rfl))]
  · have hn0 : (limbs (val b)).length ≠ 0 := fun e => h0 (limbs_nil.1 e)
    rw [if_neg h0, cF (decide_eq_false (by omega)), natCmp a b (by omega) (by omega), Option.bind_some]
    by_cases hlt : val a < val b
    · rw [cT (decide_eq_true (sgnv_neg.2 hlt)), natTrim, Option.bind_some, Nat.div_eq_of_lt hlt, Nat.mod_eq_of_lt hlt, nat_zero]
    · have hns : ¬ sgnv (val a) (val b) < 0 := fun h => hlt (sgnv_neg.1 h)
      rw [cF (decide_eq_false hns)]
      by_cases h1 : (limbs (val b)).length = 1
      · have hbb := lt_limbs (val b)
        rw [h1, Nat.pow_one] at hbb
        have hg : (limbs (val b)).getD 0 0 = ((val b : Nat) : Int) := by rw [limbs_getD]; simp only [Nat.pow_zero, Nat.div_one]; rw [Nat.mod_eq_of_lt hbb]
        obtain ⟨out, e, o1, o2, o3⟩ := divShort (limbs (val a)) (val b) (by omega) hbb (limbs_ok _) (by omega)
        rw [W_limbs] at e o3
        have hm := Nat.mod_lt (val a) (show 0 < val b by omega)
        rw [cT (decide_eq_true (by omega)), cT (by rw [h1]; rfl), hg, e, Option.bind_some, divide_DivMod_1_eq, divText out (by omega) o1, Option.bind_some, divText _ (by simp) ((Ok.nil _).cons (Int.natCast_nonneg _) (by omega)), Option.bind_some, o3, W, W, Nat.mul_zero, Nat.add_zero, Int.toNat_natCast]
      · obtain ⟨o, r, e, o1, o2, o3, o4, o5, o6⟩ := divLong (val a) (val b) (by omega) (by omega) (by omega)
        rw [cF (decide_eq_false (by omega)), e, Option.bind_some, divide_DivMod_1_eq, divText o o2 o1, Option.bind_some, divText r o4 o3, Option.bind_some, o5, o6]
end Go.Proofs.YtenebjaipfcflaaDoor.P

/- The tables are the program's own. -/
set_option linter.unusedVariables false
set_option maxRecDepth 100000
namespace Go.Proofs.YtenebjaipfcflaaDoor.C
open Go Go.Proofs.YtenebjaipfcflaaDoor.K
theorem look_all {α : Type} {Q : Nat → α → Prop} : ∀ {l : List (Nat × α)}, (∀ p ∈ l, Q p.1 p.2) → ∀ t v, look l t = some v → Q t v
  | [], _, t, v, h => by cases h
  | (u, x) :: l, hl, t, v, h => by
    simp only [look] at h
    split at h
    · rename_i hb
      have := Nat.eq_of_beq_eq_true hb
      subst this
      cases h
      exact hl _ (List.mem_cons_self ..)
    · exact look_all (fun p hp => hl p (List.mem_cons_of_mem _ hp)) t v h
theorem all_nil {α : Type} {Q : Nat → α → Prop} : ∀ p ∈ ([] : List (Nat × α)), Q p.1 p.2 := fun p h => by cases h
theorem all_cons {α : Type} {Q : Nat → α → Prop} {u : Nat} {x : α} {l : List (Nat × α)} (h : Q u x) (hl : ∀ p ∈ l, Q p.1 p.2) : ∀ p ∈ (u, x) :: l, Q p.1 p.2 := fun p hp => by
  rcases List.mem_cons.1 hp with rfl | hp
  · exact h
  · exact hl p hp
theorem tiok3 : TIok Tryd.prog 3 ti3 := ⟨by kernel_rfl, by kernel_rfl, by kernel_rfl, by kernel_rfl, by kernel_rfl, by kernel_rfl, by kernel_rfl, by kernel_rfl, ⟨by kernel_rfl, by kernel_rfl, by kernel_rfl⟩, fun h => by cases h⟩
theorem tiok5 : TIok Tryd.prog 5 ti5 := ⟨by kernel_rfl, by kernel_rfl, by kernel_rfl, by kernel_rfl, by kernel_rfl, by kernel_rfl, by kernel_rfl, by kernel_rfl, ⟨by kernel_rfl, by kernel_rfl, by kernel_rfl⟩, fun h => by cases h⟩
theorem tiok9 : TIok Tryd.prog 9 ti9 := ⟨by kernel_rfl, by kernel_rfl, by kernel_rfl, by kernel_rfl, by kernel_rfl, by kernel_rfl, by kernel_rfl, by kernel_rfl, ⟨by kernel_rfl, by kernel_rfl, by kernel_rfl⟩, fun h => by cases h⟩
theorem tiok66 : TIok Tryd.prog 66 ti66 := ⟨by kernel_rfl, by kernel_rfl, by kernel_rfl, by kernel_rfl, by kernel_rfl, by kernel_rfl, by kernel_rfl, by kernel_rfl, ⟨by kernel_rfl, by kernel_rfl, by kernel_rfl⟩, fun h => by cases h⟩
theorem tiok91 : TIok Tryd.prog 91 ti91 := ⟨by kernel_rfl, by kernel_rfl, by kernel_rfl, by kernel_rfl, by kernel_rfl, by kernel_rfl, by kernel_rfl, by kernel_rfl, ⟨by kernel_rfl, by kernel_rfl, by kernel_rfl⟩, fun h => by cases h⟩
theorem tiok103 : TIok Tryd.prog 103 ti103 := ⟨by kernel_rfl, by kernel_rfl, by kernel_rfl, by kernel_rfl, by kernel_rfl, by kernel_rfl, by kernel_rfl, by kernel_rfl, ⟨by kernel_rfl, by kernel_rfl, by kernel_rfl⟩, fun h => by cases h⟩
theorem tiok105 : TIok Tryd.prog 105 ti105 := ⟨by kernel_rfl, by kernel_rfl, by kernel_rfl, by kernel_rfl, by kernel_rfl, by kernel_rfl, by kernel_rfl, by kernel_rfl, trivial, fun h => by cases h⟩
theorem tiok109 : TIok Tryd.prog 109 ti109 := ⟨by kernel_rfl, by kernel_rfl, by kernel_rfl, by kernel_rfl, by kernel_rfl, by kernel_rfl, by kernel_rfl, by kernel_rfl, ⟨by kernel_rfl, by kernel_rfl, by kernel_rfl⟩, fun h => by cases h⟩
theorem tiok118 : TIok Tryd.prog 118 ti118 := ⟨by kernel_rfl, by kernel_rfl, by kernel_rfl, by kernel_rfl, by kernel_rfl, by kernel_rfl, by kernel_rfl, by kernel_rfl, ⟨by kernel_rfl, by kernel_rfl, by kernel_rfl⟩, fun h => by cases h⟩
theorem tiok127 : TIok Tryd.prog 127 ti127 := ⟨by kernel_rfl, by kernel_rfl, by kernel_rfl, by kernel_rfl, by kernel_rfl, by kernel_rfl, by kernel_rfl, by kernel_rfl, ⟨by kernel_rfl, by kernel_rfl, by kernel_rfl⟩, fun h => by cases h⟩
theorem tiok130 : TIok Tryd.prog 130 ti130 := ⟨by kernel_rfl, by kernel_rfl, by kernel_rfl, by kernel_rfl, by kernel_rfl, by kernel_rfl, by kernel_rfl, by kernel_rfl, ⟨by kernel_rfl, by kernel_rfl, by kernel_rfl⟩, fun h => by cases h⟩
theorem tis_ok : CtxTI Tryd.prog CT := look_all (l := tis) (all_cons tiok3 (all_cons tiok5 (all_cons tiok9 (all_cons tiok66 (all_cons tiok91 (all_cons tiok103 (all_cons tiok105 (all_cons tiok109 (all_cons tiok118 (all_cons tiok127 (all_cons tiok130 all_nil)))))))))))
def FnOk (f : Nat) (fn : Func) : Prop := Tryd.prog.funcs[f]? = some fn ∧ fn.body.isSome = true ∧ (fn.name == "runtime.NumGoroutine") = false
def ParOk (i : Nat) (fn : Func) : Prop := ((look ptsL i).getD []).length ≤ fn.ntmps
theorem fnok80 : FnOk 80 Tryd.f80 := ⟨Tryd.func80, by kernel_rfl, by kernel_rfl⟩
theorem parok80 : ParOk 80 Tryd.f80 := Nat.le_of_ble_eq_true (by kernel_rfl)
theorem fnok111 : FnOk 111 Tryd.f111 := ⟨Tryd.func111, by kernel_rfl, by kernel_rfl⟩
theorem parok111 : ParOk 111 Tryd.f111 := Nat.le_of_ble_eq_true (by kernel_rfl)
theorem fnok130 : FnOk 130 Tryd.f130 := ⟨Tryd.func130, by kernel_rfl, by kernel_rfl⟩
theorem parok130 : ParOk 130 Tryd.f130 := Nat.le_of_ble_eq_true (by kernel_rfl)
theorem fnok131 : FnOk 131 Tryd.f131 := ⟨Tryd.func131, by kernel_rfl, by kernel_rfl⟩
theorem parok131 : ParOk 131 Tryd.f131 := Nat.le_of_ble_eq_true (by kernel_rfl)
theorem fnok65 : FnOk 65 Tryd.f65 := ⟨Tryd.func65, by kernel_rfl, by kernel_rfl⟩
theorem parok65 : ParOk 65 Tryd.f65 := Nat.le_of_ble_eq_true (by kernel_rfl)
theorem fnok66 : FnOk 66 Tryd.f66 := ⟨Tryd.func66, by kernel_rfl, by kernel_rfl⟩
theorem parok66 : ParOk 66 Tryd.f66 := Nat.le_of_ble_eq_true (by kernel_rfl)
theorem fnok78 : FnOk 78 Tryd.f78 := ⟨Tryd.func78, by kernel_rfl, by kernel_rfl⟩
theorem parok78 : ParOk 78 Tryd.f78 := Nat.le_of_ble_eq_true (by kernel_rfl)
theorem fnok79 : FnOk 79 Tryd.f79 := ⟨Tryd.func79, by kernel_rfl, by kernel_rfl⟩
theorem parok79 : ParOk 79 Tryd.f79 := Nat.le_of_ble_eq_true (by kernel_rfl)
theorem fnok89 : FnOk 89 Tryd.f89 := ⟨Tryd.func89, by kernel_rfl, by kernel_rfl⟩
theorem parok89 : ParOk 89 Tryd.f89 := Nat.le_of_ble_eq_true (by kernel_rfl)
theorem fnok90 : FnOk 90 Tryd.f90 := ⟨Tryd.func90, by kernel_rfl, by kernel_rfl⟩
theorem parok90 : ParOk 90 Tryd.f90 := Nat.le_of_ble_eq_true (by kernel_rfl)
theorem fnok91 : FnOk 91 Tryd.f91 := ⟨Tryd.func91, by kernel_rfl, by kernel_rfl⟩
theorem parok91 : ParOk 91 Tryd.f91 := Nat.le_of_ble_eq_true (by kernel_rfl)
theorem fnok92 : FnOk 92 Tryd.f92 := ⟨Tryd.func92, by kernel_rfl, by kernel_rfl⟩
theorem parok92 : ParOk 92 Tryd.f92 := Nat.le_of_ble_eq_true (by kernel_rfl)
theorem fnok93 : FnOk 93 Tryd.f93 := ⟨Tryd.func93, by kernel_rfl, by kernel_rfl⟩
theorem parok93 : ParOk 93 Tryd.f93 := Nat.le_of_ble_eq_true (by kernel_rfl)
theorem fnok94 : FnOk 94 Tryd.f94 := ⟨Tryd.func94, by kernel_rfl, by kernel_rfl⟩
theorem parok94 : ParOk 94 Tryd.f94 := Nat.le_of_ble_eq_true (by kernel_rfl)
theorem fnok95 : FnOk 95 Tryd.f95 := ⟨Tryd.func95, by kernel_rfl, by kernel_rfl⟩
theorem parok95 : ParOk 95 Tryd.f95 := Nat.le_of_ble_eq_true (by kernel_rfl)
theorem fnok102 : FnOk 102 Tryd.f102 := ⟨Tryd.func102, by kernel_rfl, by kernel_rfl⟩
theorem parok102 : ParOk 102 Tryd.f102 := Nat.le_of_ble_eq_true (by kernel_rfl)
theorem fnok103 : FnOk 103 Tryd.f103 := ⟨Tryd.func103, by kernel_rfl, by kernel_rfl⟩
theorem parok103 : ParOk 103 Tryd.f103 := Nat.le_of_ble_eq_true (by kernel_rfl)
theorem fnok104 : FnOk 104 Tryd.f104 := ⟨Tryd.func104, by kernel_rfl, by kernel_rfl⟩
theorem parok104 : ParOk 104 Tryd.f104 := Nat.le_of_ble_eq_true (by kernel_rfl)
theorem fnok105 : FnOk 105 Tryd.f105 := ⟨Tryd.func105, by kernel_rfl, by kernel_rfl⟩
theorem parok105 : ParOk 105 Tryd.f105 := Nat.le_of_ble_eq_true (by kernel_rfl)
theorem fnok106 : FnOk 106 Tryd.f106 := ⟨Tryd.func106, by kernel_rfl, by kernel_rfl⟩
theorem parok106 : ParOk 106 Tryd.f106 := Nat.le_of_ble_eq_true (by kernel_rfl)
theorem fnok107 : FnOk 107 Tryd.f107 := ⟨Tryd.func107, by kernel_rfl, by kernel_rfl⟩
theorem parok107 : ParOk 107 Tryd.f107 := Nat.le_of_ble_eq_true (by kernel_rfl)
theorem fnok108 : FnOk 108 Tryd.f108 := ⟨Tryd.func108, by kernel_rfl, by kernel_rfl⟩
theorem parok108 : ParOk 108 Tryd.f108 := Nat.le_of_ble_eq_true (by kernel_rfl)
theorem fnok109 : FnOk 109 Tryd.f109 := ⟨Tryd.func109, by kernel_rfl, by kernel_rfl⟩
theorem parok109 : ParOk 109 Tryd.f109 := Nat.le_of_ble_eq_true (by kernel_rfl)
theorem fnok110 : FnOk 110 Tryd.f110 := ⟨Tryd.func110, by kernel_rfl, by kernel_rfl⟩
theorem parok110 : ParOk 110 Tryd.f110 := Nat.le_of_ble_eq_true (by kernel_rfl)
theorem fnok112 : FnOk 112 Tryd.f112 := ⟨Tryd.func112, by kernel_rfl, by kernel_rfl⟩
theorem parok112 : ParOk 112 Tryd.f112 := Nat.le_of_ble_eq_true (by kernel_rfl)
theorem fnok118 : FnOk 118 Tryd.f118 := ⟨Tryd.func118, by kernel_rfl, by kernel_rfl⟩
theorem parok118 : ParOk 118 Tryd.f118 := Nat.le_of_ble_eq_true (by kernel_rfl)
theorem fnok124 : FnOk 124 Tryd.f124 := ⟨Tryd.func124, by kernel_rfl, by kernel_rfl⟩
theorem parok124 : ParOk 124 Tryd.f124 := Nat.le_of_ble_eq_true (by kernel_rfl)
theorem fnok125 : FnOk 125 Tryd.f125 := ⟨Tryd.func125, by kernel_rfl, by kernel_rfl⟩
theorem parok125 : ParOk 125 Tryd.f125 := Nat.le_of_ble_eq_true (by kernel_rfl)
theorem fnok127 : FnOk 127 Tryd.f127 := ⟨Tryd.func127, by kernel_rfl, by kernel_rfl⟩
theorem parok127 : ParOk 127 Tryd.f127 := Nat.le_of_ble_eq_true (by kernel_rfl)
theorem fnok128 : FnOk 128 Tryd.f128 := ⟨Tryd.func128, by kernel_rfl, by kernel_rfl⟩
theorem parok128 : ParOk 128 Tryd.f128 := Nat.le_of_ble_eq_true (by kernel_rfl)
theorem fnok129 : FnOk 129 Tryd.f129 := ⟨Tryd.func129, by kernel_rfl, by kernel_rfl⟩
theorem parok129 : ParOk 129 Tryd.f129 := Nat.le_of_ble_eq_true (by kernel_rfl)
theorem fnok132 : FnOk 132 Tryd.f132 := ⟨Tryd.func132, by kernel_rfl, by kernel_rfl⟩
theorem parok132 : ParOk 132 Tryd.f132 := Nat.le_of_ble_eq_true (by kernel_rfl)
theorem fns_ok : ∀ f fn, look fns f = some fn → FnOk f fn := look_all (Q := FnOk) (l := fns) (all_cons fnok65 (all_cons fnok66 (all_cons fnok78 (all_cons fnok79 (all_cons fnok89 (all_cons fnok90 (all_cons fnok91 (all_cons fnok92 (all_cons fnok93 (all_cons fnok94 (all_cons fnok95 (all_cons fnok102 (all_cons fnok103 (all_cons fnok104 (all_cons fnok105 (all_cons fnok106 (all_cons fnok107 (all_cons fnok108 (all_cons fnok109 (all_cons fnok110 (all_cons fnok112 (all_cons fnok118 (all_cons fnok124 (all_cons fnok125 (all_cons fnok127 (all_cons fnok128 (all_cons fnok129 (all_cons fnok132 (all_cons fnok80 (all_cons fnok111 (all_cons fnok130 (all_cons fnok131 all_nil))))))))))))))))))))))))))))))))
theorem ctx_ok : CtxOk Tryd.prog CT := ⟨tis_ok, fns_ok, by kernel_rfl, inv_keeps⟩
theorem pars_ok : ∀ i fn, look fns i = some fn → ParOk i fn := look_all (Q := ParOk) (l := fns) (all_cons parok65 (all_cons parok66 (all_cons parok78 (all_cons parok79 (all_cons parok89 (all_cons parok90 (all_cons parok91 (all_cons parok92 (all_cons parok93 (all_cons parok94 (all_cons parok95 (all_cons parok102 (all_cons parok103 (all_cons parok104 (all_cons parok105 (all_cons parok106 (all_cons parok107 (all_cons parok108 (all_cons parok109 (all_cons parok110 (all_cons parok112 (all_cons parok118 (all_cons parok124 (all_cons parok125 (all_cons parok127 (all_cons parok128 (all_cons parok129 (all_cons parok132 (all_cons parok80 (all_cons parok111 (all_cons parok130 (all_cons parok131 all_nil))))))))))))))))))))))))))))))))
theorem sound (hE : ExtOk Tryd.prog CT) : ∀ k, SpecOk Tryd.prog (sem CT k) ∧ StageOk Tryd.prog (sem CT k) := sem_sound ctx_ok hE pars_ok
theorem ext_ok : ExtOk Tryd.prog CT := ext_of (l := extL) rfl (allE_cons (ext_at (H.text_ok inv_keeps (B.cut_ok inv_max) (B.trim_ok inv_max))) (allE_cons (ext_at (trimLeft_ok)) (allE_cons (ext_at (H.short_ok)) (allE_cons (ext_at (H.textDiv_ok inv_keeps (B.trim_ok inv_max))) (allE_cons (ext_at (len_ok)) (allE_cons (ext_at (H.cmp_ok)) (allE_cons (ext_at (lz32_ok)) allE_nil)))))))
theorem spec_ok (k : Nat) : SpecOk Tryd.prog (sem CT k) := (sound ext_ok k).1
end Go.Proofs.YtenebjaipfcflaaDoor.C

/- Contracts of naturals, told by numbers: what the machine of tier C shows. -/
set_option linter.unusedVariables false
set_option linter.unusedSimpArgs false
namespace Go.Proofs.YtenebjaipfcflaaDoor.Q
open Go Go.Proofs.YtenebjaipfcflaaDoor.K Go.Proofs.YtenebjaipfcflaaDoor.C Go.Proofs.YtenebjaipfcflaaDoor.P
def ok1 (s : List UInt8) : Bool := Nat.ble s.length 1000000000
def trimQ (s : List UInt8) : Option (List UInt8) := cond (ok1 s) (some (Lib.trimLeftB s 0)) none
def ofQ (n : Int) : Option (List UInt8) := cond (decide (0 ≤ n) && decide (n < 18446744073709551616)) (some (nat n.toNat)) none
def smallQ (s : List UInt8) : Option (Int × Bool) := cond (ok1 s) (some (small (val s))) none
def addQ (y : List UInt8 × List UInt8) : Option (List UInt8) := cond (ok1 y.1 && ok1 y.2) (some (nat (val y.1 + val y.2))) none
def mulQ (y : List UInt8 × List UInt8) : Option (List UInt8) := cond (ok1 y.1 && ok1 y.2) (some (nat (val y.1 * val y.2))) none
def divQ (y : List UInt8 × List UInt8) : Option (List UInt8 × List UInt8 × Int) := cond (ok1 y.1 && ok1 y.2) (some (divmod (val y.1) (val y.2))) none
theorem ok1_le {s : List UInt8} (h : ok1 s = true) : s.length ≤ 1000000000 := Nat.le_of_ble_eq_true h
theorem ok2_le {a b : List UInt8} (h : (ok1 a && ok1 b) = true) : a.length ≤ 1000000000 ∧ b.length ≤ 1000000000 := by
  rw [Bool.and_eq_true] at h
  exact ⟨ok1_le h.1, ok1_le h.2⟩
theorem call_of {i : Nat} (hf : (C.CT.fn (C.CT.fid i)).isSome = true) {g : den (tyL (C.CT.pts i)) → Option (den (tyL (C.CT.rts i)))} (hg : ∀ y r, g y = some r → (top C.CT).callF i y = some r) {inv : World → Prop} (hi : ∀ w, inv w → MaxLen w) :
    CallT Tryd.prog (C.CT.fid i) (C.CT.pts i) (C.CT.rts i) inv g := B.callT_of (C := C.CT) C.spec_ok hf hg hi
variable {inv : World → Prop} (hi : ∀ w, inv w → MaxLen w)
include hi
theorem trim_ok : CallT Tryd.prog 92 [.str] [.str] inv trimQ := call_of (i := 92) (by kernel_rfl) (g := trimQ) (fun y r h => by
  obtain ⟨hc, rfl⟩ := cond_some h
  exact (natTrim y).trans (congrArg some (trimB y).symm)) hi
theorem of_ok : CallT Tryd.prog 91 [.int .u64] [.str] inv ofQ := call_of (i := 91) (by kernel_rfl) (g := ofQ) (fun y r h => by
  obtain ⟨hc, rfl⟩ := cond_some h
  simp only [Bool.and_eq_true, decide_eq_true_eq] at hc
  obtain ⟨n, rfl⟩ := Int.eq_ofNat_of_zero_le hc.1
  exact natOf n (by omega)) hi
theorem add_ok : CallT Tryd.prog 89 [.str, .str] [.str] inv addQ := call_of (i := 89) (by kernel_rfl) (g := addQ) (fun y r h => by
  obtain ⟨hc, rfl⟩ := cond_some h
  obtain ⟨h1, h2⟩ := ok2_le hc
  exact natAdd y.1 y.2 (by omega) (by omega)) hi
theorem mul_ok : CallT Tryd.prog 90 [.str, .str] [.str] inv mulQ := call_of (i := 90) (by kernel_rfl) (g := mulQ) (fun y r h => by
  obtain ⟨hc, rfl⟩ := cond_some h
  obtain ⟨h1, h2⟩ := ok2_le hc
  exact natMul y.1 y.2 (by omega) (by omega)) hi
theorem div_ok : CallT Tryd.prog 94 [.str, .str] [.str, .str, .int .i64] inv divQ := call_of (i := 94) (by kernel_rfl) (g := divQ) (fun y r h => by
  obtain ⟨hc, rfl⟩ := cond_some h
  obtain ⟨h1, h2⟩ := ok2_le hc
  exact divDivMod y.1 y.2 h1 h2) hi
end Go.Proofs.YtenebjaipfcflaaDoor.Q

/- Greatest common divisors: the program's, the reference's. -/
set_option linter.unusedVariables false
set_option linter.unusedSimpArgs false
namespace Go.Proofs.YtenebjaipfcflaaDoor.P
open Go Go.Proofs.YtenebjaipfcflaaDoor.K Go.Proofs.YtenebjaipfcflaaDoor.C
theorem pow_256 (k : Nat) : 256 ^ k = 2 ^ (8 * k) := by rw [show (256 : Nat) = 2 ^ 8 by decide, ← Nat.pow_mul]
theorem gcd_step (a b : Nat) : Nat.gcd a b = Nat.gcd b (a % b) := by rw [Nat.gcd_comm a b, Nat.gcd_rec, Nat.gcd_comm]
theorem divGcd1 : ∀ (n a b : Nat), b ≤ n → (nat a).length ≤ 1000000000 → (nat b).length ≤ 1000000000 → divide_Gcd_1 (nat a) (nat b) = some (nat (Nat.gcd a b))
  | n, a, b, h, ha, hb => by
    by_cases h0 : b = 0
    · subst h0
      rw [divide_Gcd_1_eq, nat_zero, cF (by rfl), Nat.gcd_zero_right]
    · match n with
      | 0 => omega
      | n + 1 =>
        have hm := Nat.mod_lt a (show 0 < b by omega)
        rw [divide_Gcd_1_eq, cT (by rw [decide_eq_false (fun e => h0 (nat_eq_nil.1 e))]; rfl), divDivMod _ _ ha hb, Option.bind_some, val_nat, val_nat, divmod, if_neg h0]
        simp only
        rw [cF (by rfl), divGcd1 n b (a % b) (by omega) hb (Nat.le_trans (len_mono (Nat.le_of_lt hm)) hb), ← gcd_step]
theorem divGcd (a b : List UInt8) (ha : a.length ≤ 1000000000) (hb : b.length ≤ 1000000000) : divide_Gcd a b = some (nat (Nat.gcd (val a) (val b))) := by
  have la := nat_val_length a
  have lb := nat_val_length b
  rw [divide_Gcd_eq, natTrim, Option.bind_some, natTrim, Option.bind_some, divGcd1 _ _ _ (Nat.le_refl _) (by omega) (by omega)]
end Go.Proofs.YtenebjaipfcflaaDoor.P

/- Powers: the program's, the reference's. -/
set_option linter.unusedVariables false
set_option linter.unusedSimpArgs false
namespace Go.Proofs.YtenebjaipfcflaaDoor.P
open Go Go.Proofs.YtenebjaipfcflaaDoor.K Go.Proofs.YtenebjaipfcflaaDoor.C
def powV (A n : Nat) : List UInt8 × Int := if (nat (A ^ n)).length > 1024 then ([], 9) else (nat (A ^ n), 0)
def powR (A : Nat) (n : Int) : List UInt8 × Int := if n < 0 then ([], 2) else if n = 0 then ([1], 0) else if A = 0 ∨ A = 1 then (nat A, 0) else powV A n.toNat
theorem nat_one : nat 1 = [1] := rfl
theorem neg_or (n : Int) : n < 0 ∨ ∃ k : Nat, n = (k : Int) := by
  rcases Int.lt_or_le n 0 with h | h
  · exact .inl h
  · exact .inr ⟨n.toNat, by omega⟩
theorem powV_big {A n m : Nat} (hA : 0 < A) (h : m ≤ n) (hl : (nat (A ^ m)).length > 1024) : powV A n = ([], 9) := by
  have := len_mono (Nat.pow_le_pow_right hA h)
  rw [powV, if_pos (by omega)]
theorem bit_at (n j : Nat) (hn : n ≤ 9000) (hj : j < 63) : bitop .and .i64 ((n : Int).fdiv (2 ^ min (j : Int).toNat IntKind.i64.bits)) 1 = ((n / 2 ^ j % 2 : Nat) : Int) := by
  have hp : (2 : Int) ^ min (j : Int).toNat IntKind.i64.bits = ((2 ^ j : Nat) : Int) := by
    rw [Int.toNat_natCast, show IntKind.i64.bits = 64 from rfl, Nat.min_eq_left (by omega)]; simp
  have hq : n / 2 ^ j ≤ n := Nat.div_le_self _ _
  have hpos : 0 < 2 ^ j := Nat.two_pow_pos j
  rw [hp, fd (by omega), ← Int.natCast_ediv]
  generalize n / 2 ^ j = q at hq
  have := bits_mask .i64 63 (by decide) wraps_i64 1 (by decide) (q : Int) (by omega) (by omega)
  exact this.trans (by omega)
theorem half_at (n j : Nat) : n / 2 ^ j = 2 * (n / 2 ^ (j + 1)) + n / 2 ^ j % 2 := by
  rw [Nat.pow_succ, ← Nat.div_div_eq_div_mul]
  omega
theorem divPow2 (A n : Nat) (hA : 0 < A) (hn : n ≤ 9000) (lA : (nat A).length ≤ 1024) : ∀ (j : Nat), j ≤ 60 → (nat (A ^ (n / 2 ^ j))).length ≤ 1024 → divide_Pow_2 (nat A) (n : Int) ((j : Int) - 1) (nat (A ^ (n / 2 ^ j))) = some (powV A n)
  | 0, hj, hl => by
    rw [divide_Pow_2_eq, cF (decide_eq_false (by omega)), powV]
    simp only [Nat.pow_zero, Nat.div_one] at hl ⊢
    rw [if_neg (by omega)]
  | j + 1, hj, hl => by
    have hh := half_at n j
    have hle : n / 2 ^ j ≤ n := Nat.div_le_self _ _
    have sq : A ^ (n / 2 ^ (j + 1)) * A ^ (n / 2 ^ (j + 1)) = A ^ (2 * (n / 2 ^ (j + 1))) := by rw [← Nat.pow_add]; congr 1; omega
    have over : ∀ (p : List UInt8), divide_Pow_4 (nat A) (n : Int) (j : Int) true p = some ([], 9) := fun p => by rw [divide_Pow_4_eq, cond_true]
    have next : ∀ (m : Nat), m = n / 2 ^ j → (nat (A ^ m)).length ≤ 1024 → divide_Pow_4 (nat A) (n : Int) (j : Int) false (nat (A ^ m)) = some (powV A n) := fun m hm hlm => by
      subst hm
      rw [divide_Pow_4_eq, cond_false, wrap64 (by omega) (by omega)]
      exact divPow2 A n hA hn lA j (by omega) hlm
    rw [divide_Pow_2_eq, show (((j + 1 : Nat) : Int) - 1) = (j : Int) by omega, cT (decide_eq_true (by omega)), divide_Pow_3_eq, natMul _ _ (by omega) (by omega), Option.bind_some, val_nat, sq, bit_at n j hn (by omega)]
    by_cases hg : (nat (A ^ (2 * (n / 2 ^ (j + 1))))).length ≤ 1024
    · rw [cF (by rw [decide_eq_true (by omega)]; rfl), cT (decide_eq_true (by omega))]
      have hb := Nat.mod_lt (n / 2 ^ j) (show 0 < 2 by decide)
      by_cases hbit : n / 2 ^ j % 2 = 1
      · rw [hbit, cT (by rfl), divide_Pow_5_eq, natMul _ _ (by omega) (by omega), Option.bind_some, cond_true, cond_false, val_nat, val_nat, ← Nat.pow_succ, show (2 * (n / 2 ^ (j + 1))).succ = n / 2 ^ j by omega]
        by_cases hg2 : (nat (A ^ (n / 2 ^ j))).length ≤ 1024
        · rw [decide_eq_true (by omega)]
          exact next _ rfl hg2
        · rw [decide_eq_false (by omega), powV_big hA hle (by omega)]
          exact over _
      · have hbit : n / 2 ^ j % 2 = 0 := by omega
        rw [hbit, cF (by rfl)]
        exact next _ (by omega) hg
    · rw [cT (by rw [decide_eq_false (by omega)]; rfl), over, powV_big hA (by omega) (show (nat (A ^ (2 * (n / 2 ^ (j + 1))))).length > 1024 by omega)]
theorem powV_huge (A n : Nat) (hA : 2 ≤ A) (hn : 8192 < n) : powV A n = ([], 9) := by
  rw [powV, if_pos]
  rcases Nat.lt_or_ge 1024 (nat (A ^ n)).length with h | h
  · exact h
  · exfalso
    have hv := val_lt (nat (A ^ n))
    rw [val_nat, pow_256] at hv
    have h1 : 2 ^ n ≤ A ^ n := Nat.pow_le_pow_left hA n
    have h2 : 2 ^ (8 * (nat (A ^ n)).length) ≤ 2 ^ n := Nat.pow_le_pow_right (by decide) (by omega)
    omega
theorem divPow (a : List UInt8) (ha : a.length ≤ 1024) (n : Int) (hn : n ≤ 9000) : divide_Pow a n = some (powR (val a) n) := by
  have la := nat_val_length a
  have o1 : nat_Of 1 = some [1] := natOf 1 (by decide)
  rw [divide_Pow_eq, natTrim, Option.bind_some, powR]
  rcases neg_or n with h | ⟨k, rfl⟩
  · rw [cT (decide_eq_true h), if_pos h]
  · rw [cF (decide_eq_false (by omega)), if_neg (by omega)]
    by_cases h0 : k = 0
    · subst h0
      rw [cT (by rfl), o1, if_pos (show ((0 : Nat) : Int) = 0 from rfl)]; rfl
    · rw [cF (decide_eq_false (by omega)), if_neg (by omega)]
      by_cases hA : val a = 0
      · rw [cT (decide_eq_true (nat_eq_nil.2 hA)), divide_Pow_1_eq, cond_true, if_pos (.inl hA)]
      · rw [cF (decide_eq_false (fun e => hA (nat_eq_nil.1 e))), o1, Option.bind_some, divide_Pow_1_eq]
        by_cases h1 : val a = 1
        · rw [cT (decide_eq_true (by rw [h1]; rfl)), if_pos (.inr h1)]
        · rw [cF (decide_eq_false (fun e => h1 (by rw [← nat_one] at e; exact nat_inj.1 e))), if_neg (by omega), Int.toNat_natCast]
          by_cases h2 : (k : Int) > 8192
          · rw [cT (decide_eq_true h2), powV_huge _ _ (by omega) (by omega)]
          · have hb := (blen_bounds k).1
            have hl : math_bits_Len (IntKind.u64.wrap (k : Int)) = some ((blen k : Nat) : Int) := by
              refine (top_call ..).trans ?_
              show len64F _ = _
              unfold len64F
              rw [wrapU64 (by omega) (by omega), cT (by simp; omega), Int.toNat_natCast, bitLen_blen k (by omega)]
            have hb32 := blen_le k (by omega)
            have hz : k / 2 ^ blen k = 0 := Nat.div_eq_of_lt hb
            have := divPow2 (val a) k (by omega) (by omega) (by omega) (blen k) (by omega) (by rw [hz, Nat.pow_zero, nat_one]; simp)
            rw [hz, Nat.pow_zero, nat_one] at this
            rw [cF (decide_eq_false h2), o1, Option.bind_some, hl, Option.bind_some, wrap64 (by omega) (by omega)]
            exact this
end Go.Proofs.YtenebjaipfcflaaDoor.P

/- More contracts of naturals, told by numbers: order, divisors, powers, bits. -/
set_option linter.unusedVariables false
set_option linter.unusedSimpArgs false
namespace Go.Proofs.YtenebjaipfcflaaDoor.Q
open Go Go.Proofs.YtenebjaipfcflaaDoor.K Go.Proofs.YtenebjaipfcflaaDoor.C Go.Proofs.YtenebjaipfcflaaDoor.P
def ok3 (s : List UInt8) : Bool := Nat.ble s.length 1000
def cmpQ (y : List UInt8 × List UInt8) : Option Int := cond (ok1 y.1 && ok1 y.2) (some (sgnv (val y.1) (val y.2))) none
def gcdQ (y : List UInt8 × List UInt8) : Option (List UInt8) := cond (ok3 y.1 && ok3 y.2) (some (nat (Nat.gcd (val y.1) (val y.2)))) none
def powQ (y : List UInt8 × Int) : Option (List UInt8 × Int) := cond (ok3 y.1 && decide (y.2 ≤ 9000)) (some (powR (val y.1) y.2)) none
def bitsQ (s : List UInt8) : Option Int := cond (ok1 s) (some ((blen (val s) : Nat) : Int)) none
theorem le9 (n : Int) (h : decide (n ≤ 9000) = true) : n ≤ 9000 := of_decide_eq_true h
theorem ok3_le {s : List UInt8} (h : ok3 s = true) : s.length ≤ 1000 := Nat.le_of_ble_eq_true h
theorem ok33_le {a b : List UInt8} (h : (ok3 a && ok3 b) = true) : a.length ≤ 1000 ∧ b.length ≤ 1000 := by
  rw [Bool.and_eq_true] at h
  exact ⟨ok3_le h.1, ok3_le h.2⟩
variable {inv : World → Prop} (hi : ∀ w, inv w → MaxLen w)
include hi
theorem cmp_ok : CallT Tryd.prog 107 [.str, .str] [.int .i64] inv cmpQ := call_of (i := 107) (by kernel_rfl) (g := cmpQ) (fun y r h => by
  obtain ⟨hc, rfl⟩ := cond_some h
  obtain ⟨h1, h2⟩ := ok2_le hc
  exact natCmp y.1 y.2 (by omega) (by omega)) hi
theorem gcd_ok : CallT Tryd.prog 93 [.str, .str] [.str] inv gcdQ := call_of (i := 93) (by kernel_rfl) (g := gcdQ) (fun y r h => by
  obtain ⟨hc, rfl⟩ := cond_some h
  obtain ⟨h1, h2⟩ := ok33_le hc
  exact divGcd y.1 y.2 (by omega) (by omega)) hi
theorem pow_ok : CallT Tryd.prog 95 [.str, .int .i64] [.str, .int .i64] inv powQ := call_of (i := 95) (by kernel_rfl) (g := powQ) (fun y r h => by
  obtain ⟨hc, rfl⟩ := cond_some h
  rw [Bool.and_eq_true] at hc
  have h1 := ok3_le hc.1
  exact divPow y.1 (by omega) y.2 (le9 _ hc.2)) hi
end Go.Proofs.YtenebjaipfcflaaDoor.Q

/- Texts as values, told by the machine of tier C: for contracts by hand. -/
set_option linter.unusedVariables false
set_option linter.unusedSimpArgs false
namespace Go.Proofs.YtenebjaipfcflaaDoor.Q
open Go Go.Proofs.YtenebjaipfcflaaDoor.K Go.Proofs.YtenebjaipfcflaaDoor.C
open Go.Proofs.YtenebjaipfcflaaDoor.P (wS)
def plc (b : UInt8) : Bool := decide (32 ≤ b.toNat) && decide (b.toNat ≤ 126)
def plainQ (s : List UInt8) : Bool := s.all plc && decide (s.length ≤ 200)
theorem drop_all {p : UInt8 → Bool} {s : List UInt8} {i : Nat} (h : i < s.length) : (s.drop i).all p = (p (s.getD i 0) && (s.drop (i + 1)).all p) := by
  rw [List.drop_eq_getElem_cons h, List.all_cons, List.getD_eq_getElem?_getD, List.getElem?_eq_getElem h]; rfl
theorem plain1 (s : List UInt8) (hs : s.length ≤ 9223372036854775807) : ∀ (m i : Nat), i + m = s.length → C.value_plain_1 s (s.map fun b => (b.toNat : Int)) ((s.map fun b => (b.toNat : Int)).length : Int) (i : Int) = some ((s.drop i).all plc && decide (s.length ≤ 200))
  | 0, i, h => by
    rw [C.value_plain_1_eq, cF (decide_eq_false (by rw [List.length_map]; omega)), List.drop_of_length_le (by omega)]
    exact congrArg some (decide_eq_decide.2 (by omega))
  | m + 1, i, h => by
    have hi : i < s.length := by omega
    have hg : (s.map fun b => (b.toNat : Int)).getD (i : Int).toNat 0 = ((s.getD i 0).toNat : Int) := by simp [List.getD, hi]
    have next : C.value_plain_2 s (s.map fun b => (b.toNat : Int)) ((s.map fun b => (b.toNat : Int)).length : Int) (i : Int) false = some ((s.drop (i + 1)).all plc && decide (s.length ≤ 200)) := by
      rw [C.value_plain_2_eq, cond_false, wS (by omega)]; exact plain1 s hs m (i + 1) (by omega)
    have stop : C.value_plain_2 s (s.map fun b => (b.toNat : Int)) ((s.map fun b => (b.toNat : Int)).length : Int) (i : Int) true = some false := by rw [C.value_plain_2_eq, cond_true]
    rw [C.value_plain_1_eq, cT (decide_eq_true (by rw [List.length_map]; omega)), cT (by rw [List.length_map]; exact ix hi), hg, drop_all hi]
    generalize s.getD i 0 = c
    by_cases h1 : c.toNat < 32
    · rw [cT (decide_eq_true (by omega)), stop, show plc c = false by unfold plc; simp; omega]; rfl
    · rw [cF (decide_eq_false (by omega))]
      by_cases h2 : c.toNat > 126
      · rw [decide_eq_true (show (c.toNat : Int) > 126 by omega), stop, show plc c = false by unfold plc; simp; omega]; rfl
      · rw [decide_eq_false (show ¬ (c.toNat : Int) > 126 by omega), next, show plc c = true by unfold plc; simp; omega]; rfl
theorem plain0 (s : List UInt8) (hs : s.length ≤ 9223372036854775807) : C.value_plain s = some (plainQ s) := (C.value_plain_eq s).trans (plain1 s hs s.length 0 (Nat.zero_add _))
abbrev VTy : Ty := .pair (.int .i64) (.pair (.pair .bool (.pair .str .str)) (.pair .str (.pair .bool (.int .i64))))
def vtext (s : List UInt8) : den VTy := cond (plainQ s) ((2 : Int), (false, ([] : List UInt8), ([] : List UInt8)), s, false, (0 : Int)) ((4 : Int), (false, ([] : List UInt8), ([] : List UInt8)), ([] : List UInt8), false, (2 : Int))
theorem fault2 : C.value_Fault 2 = some ((4 : Int), (false, ([] : List UInt8), ([] : List UInt8)), ([] : List UInt8), false, (2 : Int)) := of_depth 30 (by kernel_rfl)
theorem vtext_eq (s : List UInt8) (hs : s.length ≤ 9223372036854775807) : C.value_Text s = some (vtext s) := by
  rw [C.value_Text_eq, plain0 s hs, Option.bind_some, fault2, Option.bind_some, vtext]
  cases plainQ s <;> rfl
def vtextQ (s : List UInt8) : Option (den VTy) := cond (ok1 s) (some (vtext s)) none
theorem vtext_ok {inv : World → Prop} (hi : ∀ w, inv w → MaxLen w) : CallT Tryd.prog 65 [.str] [VTy] inv vtextQ := call_of (i := 65) (by kernel_rfl) (g := vtextQ) (fun y r h => by
  obtain ⟨hc, rfl⟩ := cond_some h
  exact vtext_eq y (by have := ok1_le hc; omega)) hi
end Go.Proofs.YtenebjaipfcflaaDoor.Q

/- strings.Builder's WriteString, and small rules of what values tell: by hand. -/
namespace Go.Proofs.YtenebjaipfcflaaDoor.Q
open Go Go.RowKit Go.Shelf
open Go.Proofs.YtenebjaipfcflaaDoor.K (Ty den tyL RetT CallT cond_some ret_str denStr DenL DenL_2 DenL_1 DenV DeepC ResL_plain hasOwn oneV MaxLen)
open Go.Proofs.YtenebjaipfcflaaDoor.P (nat val divmod small nat_val_length len_mono val_nat nat_eq_nil nat_zero)
set_option linter.unusedVariables false
set_option linter.unusedSimpArgs false
theorem writeStr (B b : Nat) (bs : List Value) (s : ByteArray) (w : World) (h : Lib.IsBuilderF 79 5 B b bs w) (hlen : bs.length + s.size ≤ 140737488355328) (hBw : B ≤ w.heap.size) :
    Calls Tryd.prog 55 #[.pointer (some ⟨b, 0, none⟩), .string s] w fun e w' => e = .returned (.tuple #[.int .i64 s.size, .nilIface]) ∧ (Lib.BuilderAtF 79 5 B b (.pointer (some ⟨b, 0, none⟩)) (bs ++ Lib.strCells s) w' ∧ Below B w w' ∧ Lib.OthersKept 5 (some b) w w') :=
  Any.Builder_WriteString_k (P := Tryd.prog) (ρ := Tryd.lays156_ren) { Tryd.lays156 with } Tryd.Builder_Extra_156 B b bs s w h hlen hBw
theorem ret_any {ts : List Ty} {w w' : World} {fz0 : Nat → Prop} {r : den (tyL ts)} {e : Ending} (ho : hasOwn (tyL ts) = false) (h : RetT ts w fz0 r e w') : ∃ (ok : Nat → Prop) (vs : List Value), e = .returned (oneV vs) ∧ Below w.heap.size w w' ∧ DenL w'.heap ok ts r vs := by
  obtain ⟨v, rfl, hb, ow, ok, vs, _, _, _, rfl, hres⟩ := h
  exact ⟨ok, vs, rfl, hb, (ResL_plain ts ho hres).2⟩
theorem denS {hp : Array Obj} {ok : Nat → Prop} {r : List UInt8} {v : Value} (h : DenV hp ok .str r v) : v = .string ⟨r.toArray⟩ := by
  have h : Ty.str ≠ .unit ∧ [v] = [Value.string ⟨r.toArray⟩] := h
  simpa using h.2
theorem denB {hp : Array Obj} {ok : Nat → Prop} {r : Bool} {v : Value} (h : DenV hp ok .bool r v) : v = .bool r := by
  have h : Ty.bool ≠ .unit ∧ [v] = [Value.bool r] := h
  simpa using h.2
theorem denL2 {hp : Array Obj} {ok : Nat → Prop} {t u : Ty} {ts : List Ty} {x : den t} {y : den (tyL (u :: ts))} {v : Value} {vs : List Value} (h : DenV hp ok t x v) (h' : DenL hp ok (u :: ts) y vs) : DenL hp ok (t :: u :: ts) ((x, y) : den t × den (tyL (u :: ts))) (v :: vs) := by
  show ∃ v0 vs0, v :: vs = v0 :: vs0 ∧ DenV hp ok t x v0 ∧ DenL hp ok (u :: ts) y vs0
  exact ⟨v, vs, rfl, h, h'⟩
theorem denS' {hp : Array Obj} {ok : Nat → Prop} (r : List UInt8) : DenV hp ok .str r (.string ⟨r.toArray⟩) := by
  show Ty.str ≠ .unit ∧ [Value.string ⟨r.toArray⟩] = [Value.string ⟨r.toArray⟩]
  exact ⟨by simp, rfl⟩
def strLen : Value → Nat
  | .string s => s.size
  | _ => 0
end Go.Proofs.YtenebjaipfcflaaDoor.Q

/- abacist/lex.text: a text as formulas have it: the contract, by hand (a strings.Builder; a label that the run jumps back to). -/
namespace Go.Proofs.YtenebjaipfcflaaDoor.Q
open Go Go.RowKit Go.Shelf
open Go.Proofs.YtenebjaipfcflaaDoor.K (Ty den tyL RetT CallT cond_some ret_str denStr DenL DenL_2 DenL_1 DenV DeepC ResL_plain hasOwn oneV MaxLen cutF)
set_option linter.unusedVariables false
set_option linter.unusedSimpArgs false
variable {inv : World → Prop}
/-! ### what it tells -/
def posQ (c : UInt8) : List UInt8 → Option Nat
  | [] => none
  | b :: s => if b = c then some 0 else (posQ c s).map (· + 1)
theorem indexByte_posQ (c : UInt8) : ∀ s : List UInt8, Lib.indexByte s c = (match posQ c s with
    | none => -1
    | some k => (k : Int))
  | [] => rfl
  | b :: s => by
    simp only [Lib.indexByte, posQ, indexByte_posQ c s]
    by_cases h : b = c
    · simp [h]
    · rw [if_neg h, if_neg (by simpa using h)]
      cases posQ c s with
      | none => rfl
      | some k => simp
theorem posQ_lt {c : UInt8} : ∀ {s : List UInt8} {k : Nat}, posQ c s = some k → k < s.length
  | [], k, h => by simp [posQ] at h
  | b :: s, k, h => by
    simp only [posQ] at h
    split at h
    · cases h; simp
    · cases hp : posQ c s with
      | none => rw [hp] at h; cases h
      | some j => rw [hp] at h; have := posQ_lt hp; simp at h; simp; omega
theorem cut_none (c : UInt8) (s : List UInt8) (h : posQ c s = none) : Lib.cut s [c] = (s, [], false) := by
  unfold Lib.cut
  rw [Lib.index_one, indexByte_posQ, h]; rfl
theorem cut_some (c : UInt8) (s : List UInt8) (k : Nat) (h : posQ c s = some k) : Lib.cut s [c] = (s.take k, s.drop (k + 1), true) := by
  unfold Lib.cut
  rw [Lib.index_one, indexByte_posQ, h]
  simp only [Int.toNat_natCast]; rw [if_pos (by omega)]; rfl
/-- The text behind an opening quote, and how many bytes it has with the closing one. -/
def txtB : Nat → List UInt8 → Option (List UInt8 × Nat)
  | 0, _ => none
  | f + 1, r => match posQ 34 r with
    | none => none
    | some k => cond ([34].isPrefixOf (r.drop (k + 1))) ((txtB f (r.drop (k + 2))).map fun x => (r.take k ++ 34 :: x.1, k + 2 + x.2)) (some (r.take k, k + 1))
theorem txtB_none (f : Nat) (r : List UInt8) (h : posQ 34 r = none) : txtB f r = none := by
  cases f with
  | zero => rfl
  | succ f => simp only [txtB, h]
theorem txtB_more {f g : Nat} : ∀ {r : List UInt8}, r.length < f → r.length < g → txtB f r = txtB g r := by
  induction f generalizing g with
  | zero => intro r h; omega
  | succ f ih =>
    intro r h1 h2
    cases g with
    | zero => omega
    | succ g =>
      simp only [txtB]
      cases h : posQ 34 r with
      | none => rfl
      | some k =>
        have := posQ_lt h
        simp only
        rw [ih (g := g) (by simp; omega) (by simp; omega)]
def txt (r : List UInt8) : Option (List UInt8 × Nat) := txtB (r.length + 1) r
theorem txt_none {r : List UInt8} (h : posQ 34 r = none) : txt r = none := txtB_none _ _ h
theorem txt_more {r : List UInt8} {k : Nat} (h : posQ 34 r = some k) (h2 : [34].isPrefixOf (r.drop (k + 1)) = true) : txt r = (txt (r.drop (k + 2))).map fun x => (r.take k ++ 34 :: x.1, k + 2 + x.2) := by
  have := posQ_lt h
  have e : txtB r.length (r.drop (k + 2)) = txt (r.drop (k + 2)) := txtB_more (by simp; omega) (by omega)
  conv => lhs; unfold txt
  simp only [txtB, h]
  rw [h2, cond_true, e]
theorem txt_end {r : List UInt8} {k : Nat} (h : posQ 34 r = some k) (h2 : [34].isPrefixOf (r.drop (k + 1)) = false) : txt r = some (r.take k, k + 1) := by
  unfold txt
  simp only [txtB, h]
  rw [h2, cond_false]
theorem txt_len : ∀ (n : Nat) (r : List UInt8), r.length ≤ n → ∀ o m, txt r = some (o, m) → o.length + 1 ≤ m ∧ m ≤ r.length := by
  intro n
  induction n with
  | zero =>
    intro r hr o m h
    obtain rfl : r = [] := List.length_eq_zero_iff.1 (by omega)
    rw [txt_none rfl] at h; cases h
  | succ n ih =>
    intro r hr o m h
    cases hp : posQ 34 r with
    | none => rw [txt_none hp] at h; cases h
    | some k =>
      have hk := posQ_lt hp
      cases h2 : [34].isPrefixOf (r.drop (k + 1)) with
      | false => rw [txt_end hp h2] at h; cases h; simp; omega
      | true =>
        rw [txt_more hp h2] at h
        cases ht : txt (r.drop (k + 2)) with
        | none => rw [ht] at h; cases h
        | some x =>
          rw [ht] at h
          obtain ⟨o', m'⟩ := x
          cases h
          have := ih (r.drop (k + 2)) (by simp; omega) o' m' ht
          simp at this ⊢
          omega
abbrev Tok : Type := Int × List UInt8 × Int × Bool × List UInt8 × List UInt8
def noTok : Tok := (0, [], 0, false, [], [])
def textV (s : List UInt8) (at_ : Nat) : Tok × Int × Int :=
  match txt (s.drop (at_ + 1)) with
  | none => (noTok, 0, 10)
  | some x => cond (plainQ x.1) (((2 : Int), x.1, (at_ : Int), false, [], []), ((x.2 + 1 : Nat) : Int), 0) (noTok, 0, 10)
def tokV (t : Tok) : Value := .agg #[.int .i64 t.1, .string ⟨t.2.1.toArray⟩, .int .i64 t.2.2.1, .bool t.2.2.2.1, .string ⟨t.2.2.2.2.1.toArray⟩, .string ⟨t.2.2.2.2.2.toArray⟩]
/-! ### contracts of what it calls -/
def renB : Go.Shelf.Ren := ⟨fun n => if n = 167 then 64 else Tryd.lays156_ren.f n, Tryd.lays156_ren.t, Tryd.lays156_ren.g⟩
section
set_option maxRecDepth 1000000
theorem renB167 : Tryd.prog.funcs[renB.f 167]? = some (Go.Proofs.Body.n167 renB) := Tryd.func64.trans (congrArg some (by kernel_rfl))
theorem renB240 : Tryd.prog.funcs[renB.f 240]? = some (Go.Proofs.Body.n240 renB) := Tryd.func70.trans (congrArg some (by kernel_rfl))
theorem renB276 : Tryd.prog.funcs[renB.f 276]? = some (Go.Proofs.Body.n276 renB) := Tryd.func86.trans (congrArg some (by kernel_rfl))
theorem laysB : Go.Proofs.Lays.n167 Tryd.prog renB := { Tryd.lays156, Tryd.Builder_Extra_156 with
  f167 := renB167
  f240 := renB240
  f276 := renB276 }
end
section
set_option maxRecDepth 1000000
theorem writeByte (B b : Nat) (bs : List Value) (c : Int) (w : World) (h : Lib.IsBuilderF 79 5 B b bs w) (hlen : bs.length + 1 ≤ 140737488355328) (hBw : B ≤ w.heap.size) :
    Calls Tryd.prog 64 #[.pointer (some ⟨b, 0, none⟩), .int .u8 c] w fun e w' => e = .returned .nilIface ∧ (Lib.BuilderAtF 79 5 B b (.pointer (some ⟨b, 0, none⟩)) (bs ++ [.int .u8 c]) w' ∧ Below B w w' ∧ Lib.OthersKept 5 (some b) w w') :=
  Any.Builder_WriteByte_k (P := Tryd.prog) (ρ := renB) laysB { Tryd.Builder_Extra_156 with } B b bs c w h hlen hBw
end
theorem cCut (h : CallT Tryd.prog 20 [.str, .str] [.str, .str, .bool] inv cutF) (l : List UInt8) (hl : l.length < 4294967281) (W : World) (hi : inv W) :
    Calls Tryd.prog 20 #[.string ⟨l.toArray⟩, .string ⟨#[34]⟩] W fun e w' => e = .returned (.tuple #[.string ⟨(Lib.cut l [34]).1.toArray⟩, .string ⟨(Lib.cut l [34]).2.1.toArray⟩, .bool (Lib.cut l [34]).2.2]) ∧ Below W.heap.size W w' := by
  have hg : cutF (l, [34]) = some (Lib.cut l [34]) := by unfold cutF; rw [decide_eq_true hl, cond_true]
  refine (h (l, [34]) _ hg W (fun _ => False) [.string ⟨l.toArray⟩, .string ⟨#[34]⟩] (fun _ h => h.elim) hi (denL2 (denS' _) (denStr [34]))).mono fun e w' hr => ?_
  obtain ⟨ok, vs, rfl, hb, hd⟩ := ret_any rfl hr
  obtain ⟨v1, vs1, rfl, h1, hd⟩ := hd
  obtain ⟨v2, vs2, rfl, h2, hd⟩ := hd
  obtain ⟨v3, rfl, h3⟩ := hd
  obtain rfl := denS h1
  obtain rfl := denS h2
  obtain rfl := denB h3
  exact ⟨rfl, hb⟩
theorem cText (h : CallT Tryd.prog 65 [.str] [VTy] inv vtextQ) (l : List UInt8) (hl : l.length ≤ 1000000000) (W : World) (hi : inv W) :
    Calls Tryd.prog 65 #[.string ⟨l.toArray⟩] W fun e w' => (∃ x1 x2 x3 x4 x5 x6, e = .returned (.agg #[.int .i64 (cond (plainQ l) 2 4), x1, x2, x3, x4, x5, x6])) ∧ Below W.heap.size W w' := by
  have hg : vtextQ l = some (vtext l) := by unfold vtextQ ok1; rw [show Nat.ble l.length 1000000000 = true from Nat.ble_eq_true_of_le hl, cond_true]
  refine (h l _ hg W (fun _ => False) [.string ⟨l.toArray⟩] (fun _ h => h.elim) hi (denStr l)).mono fun e w' hr => ?_
  obtain ⟨ok, vs, rfl, hb, hd⟩ := ret_any rfl hr
  obtain ⟨v, rfl, hd1⟩ := hd
  have hd2 : ∃ vs : List Value, v = .agg vs.toArray ∧ DeepC w'.heap ok VTy (vtext l) vs := hd1
  clear hd1
  obtain ⟨vs, rfl, hd3⟩ := hd2
  obtain ⟨a1, r1, rfl, h1, a2, r2, rfl, ⟨b1, b2, rfl, hb1, b3, b4, rfl, hb3, hb4⟩, a3, r3, rfl, h3, a4, a5, rfl, h4, h5⟩ := hd3
  cases h1; cases hb1; cases hb3; cases hb4; cases h3; cases h4; cases h5
  refine ⟨?_, hb⟩
  unfold vtext
  cases plainQ l <;> exact ⟨_, _, _, _, _, _, rfl⟩
theorem cPre (l : List UInt8) (W : World) : Calls Tryd.prog 63 #[.string ⟨l.toArray⟩, .string ⟨#[34]⟩] W fun e w' => e = .returned (.bool ([34].isPrefixOf l)) ∧ w' = W := Tryd.strings_HasPrefix ⟨l.toArray⟩ ⟨#[34]⟩ W
theorem builder_below {T e : TypeId} {B b : Nat} {bs : List Value} {W W' : World} (h : Lib.IsBuilderF T e B b bs W) (hb : Below W.heap.size W W') : Lib.IsBuilderF T e B b bs W' := by
  have go : ∀ p, Lib.BuilderAtF T e B b p bs W → Lib.BuilderAtF T e B b p bs W' := by
    intro p h
    have hlt := h.lt
    obtain ⟨hB, v, hv, hown, hne⟩ := h
    exact ⟨hB, v, (hb.block b hlt).trans hv, hown.kept (row := none) ⟨hb.os, hb.tape, hb.output, hb.size, fun k hk _ => hb.block k hk⟩ (Classical.em _), hne⟩
  exact h.elim (fun x => .inl (go _ x)) (fun x => .inr (go _ x))
theorem builder_lt {T e : TypeId} {B b : Nat} {bs : List Value} {W : World} (h : Lib.IsBuilderF T e B b bs W) : b < W.heap.size := h.elim (fun x => x.lt) (fun x => x.lt)
theorem results_three {P : Program} {fn : Func} {p u v : Tmp} {ty : TypeId} (h : fn.results = #[.cell p ty, .tmp u, .tmp v]) (tmps : Array Value) (w : World) (g : Nat) (t : TypeId) (cs : Array Value) (fr : Nat × Nat) (d : TypeDesc)
    (hp : tmps.getD p undef = .pointer (some ⟨g, 0, none⟩)) (hg : w.heap[g]? = some (.cells cs t fr))
    (hu : P.underlying ty = some d) (hd : (match d with | .struct _ | .array _ _ => true | _ => false) = true) (hi : (P.info? ty).map (·.size) = some cs.size) :
    (results fn tmps).run P w = .ok (.tuple #[.agg cs, tmps.getD u undef, tmps.getD v undef]) w := by
  have hp' : tmps[p]?.getD undef = .pointer (some ⟨g, 0, none⟩) := by simpa using hp
  simp [results, h, hp', asAddr, Sem.run_bind, Result.andThen, run_loadVar_row w g t ty cs fr d hg hu hd hi]
theorem fldV (a x1 x2 x3 x4 x5 x6 : Value) (W : World) : (Instr.field 91 (.agg #[a, x1, x2, x3, x4, x5, x6]) 0).run Tryd.prog W = .ok a W := by kernel_rfl
theorem scope_again {P : Program} {a : Act} {w : World} {Q : Exit → Act → World → Prop} {c rest : Code} (l : Nat) (J : Act → World → Prop) (μ : Act → World → Nat) (hf : findLabel c l = some (.seq .skip rest))
    (pass : ∀ a w, J a w → rest.wp P (Exit.jump l (fun a' w' => J a' w' ∧ μ a' w' < μ a w) Q) a w)
    (first : (∀ a w, J a w → rest.wp P (Exit.jump l J Q) a w) → c.wp P (Exit.jump l J Q) a w) : (Code.scope c).wp P Q a w :=
  wp_scope_jumps l J μ hf (first fun a w h => wp_mono (pass a w h) fun e a w q => by cases e <;> first | exact q | exact ⟨q.1, q.2.1⟩) fun a w h => wp_seq (wp_skip (pass a w h))
/-- What holds at every jump. -/
def AtNext (s : List UInt8) (at_ : Nat) (w : World) (a' : Act) (W : World) : Prop :=
  ∃ (acc r : List UInt8) (c : Nat) (u8 u9 u10 u13 u14 u15 u16 u17 u18 u19 u20 u21 u22 u23 u24 u25 u26 u27 u28 u29 u30 u31 u32 u33 u34 u35 u36 u37 u38 u39 u40 u41 u42 u43 u44 u45 u46 u47 u48 u49 : Value),
    a' = { tmps := #[.string ⟨s.toArray⟩, .int .i64 (at_ : Int), undef, undef, .pointer (some ⟨w.heap.size, 0, none⟩), .int .i64 0, .int .i64 0, .pointer (some ⟨w.heap.size + 1, 0, none⟩), u8, u9, u10, .string ⟨r.toArray⟩, .int .i64 (c : Int), u13, u14, u15, u16, u17, u18, u19, u20, u21, u22, u23, u24, u25, u26, u27, u28, u29, u30, u31, u32, u33, u34, u35, u36, u37, u38, u39, u40, u41, u42, u43, u44, u45, u46, u47, u48, u49], defers := [] } ∧
    Lib.IsBuilderF 79 5 (w.heap.size + 1) (w.heap.size + 1) (Lib.byteCells acc) W ∧ Below (w.heap.size + 1) (w.alloc (.cells #[.int .i64 0, .string ⟨#[]⟩, .int .i64 0, .bool false, .string ⟨#[]⟩, .string ⟨#[]⟩] 35)) W ∧
    acc.length + r.length ≤ s.length ∧ 1 ≤ c ∧ c + r.length ≤ s.length + 1 ∧ txt (s.drop (at_ + 1)) = (txt r).map fun x => (acc ++ x.1, c - 1 + x.2)
def restLen (a : Act) (_ : World) : Nat := strLen (a.tmps.getD 11 undef)
set_option maxRecDepth 1000000 in
set_option maxHeartbeats 4000000 in
theorem mainL (hk : ∀ w w', inv w → Below w.heap.size w w' → inv w') (hText : CallT Tryd.prog 65 [.str] [VTy] inv vtextQ) (hCut : CallT Tryd.prog 20 [.str, .str] [.str, .str, .bool] inv cutF)
    (s : List UInt8) (at_ : Nat) (hat : at_ < s.length) (hs : s.length ≤ 1000000) (w : World) (hw : inv w) :
    Calls Tryd.prog 39 #[.string ⟨s.toArray⟩, .int .i64 (at_ : Int)] w fun e w' => e = .returned (.tuple #[tokV (textV s at_).1, .int .i64 (textV s at_).2.1, .int .i64 (textV s at_).2.2]) ∧ Below w.heap.size w w' := by
  go_enter Tryd.func39, Tryd.ntmps39
  go_wp2
  refine scope_again 0 (AtNext s at_ w) restLen rfl ?_ ?_
  · rintro a W ⟨acc, r, c, u8, u9, u10, u13, u14, u15, u16, u17, u18, u19, u20, u21, u22, u23, u24, u25, u26, u27, u28, u29, u30, u31, u32, u33, u34, u35, u36, u37, u38, u39, u40, u41, u42, u43, u44, u45, u46, u47, u48, u49, rfl, hbd, hB, h1, h2, h3, h4⟩
    have hbw : Below w.heap.size w W := ((Below.refl _ w).alloc (Nat.le_refl _) _).trans (hB.mono (Nat.le_succ _))
    have hsz : w.heap.size + 1 < W.heap.size := builder_lt hbd
    have hres : W.heap[w.heap.size]? = some (.cells #[.int .i64 0, .string ⟨#[]⟩, .int .i64 0, .bool false, .string ⟨#[]⟩, .string ⟨#[]⟩] 35 (0, 0)) := (hB.block _ (by simp)).trans (World.alloc_heap_new _ _)
    have hi' : inv W := hk _ _ hw hbw
    cases hp : posQ 34 r with
    | none =>
      have hcut := cut_none 34 r hp
      go_wp2_with (first
        | (refine wpList_store_row rfl 35 _ _ rfl w.heap.size #[.int .i64 0, .string ⟨#[]⟩, .int .i64 0, .bool false, .string ⟨#[]⟩, .string ⟨#[]⟩] rfl rfl 35 _ hres1 (by kernel_rfl) rfl (by simp [Value.oneCell']) ?_)
        | (go_at_call 20; refine (cCut hCut r (by omega) _ hi').mono ?_; rw [hcut]; rintro e W1 ⟨rfl, b1⟩; have hres1 := (b1.block _ (Nat.lt_of_succ_lt hsz)).trans hres))
      have hT : textV s at_ = (noTok, 0, 10) := by unfold textV; rw [h4, txt_none hp]; rfl
      simp only [Exit.jump]
      refine bodyPost_ret (results_three rfl _ _ w.heap.size 35 _ (0, 0) _ rfl (setRow_heap _ _ _ _ _ _ hres1) Tryd.underlying35 rfl (by kernel_rfl)) rfl ⟨by rw [hT]; rfl, below_setRow (hbw.trans (b1.mono hbw.size)) (Nat.le_refl _) _⟩
    | some k =>
      have hcut := cut_some 34 r k hp
      have hkr := posQ_lt hp
      have lt1 : (r.take k).length = k := by rw [List.length_take]; omega
      cases hpre : [34].isPrefixOf (r.drop (k + 1)) with
      | true =>
        have l2 : k + 1 < r.length := by
          rcases Nat.lt_or_ge (k + 1) r.length with h | h
          · exact h
          · rw [List.drop_of_length_le h] at hpre; cases hpre
        go_wp2_with (first
          | (go_at_call 20; refine (cCut hCut r (by omega) _ hi').mono ?_; rw [hcut]; rintro e W1 ⟨rfl, b1⟩; have hbd1 := builder_below hbd b1; have hB1 := hB.trans (b1.mono (by omega)); have hz1 := builder_lt hbd1)
          | (go_at_call 55; refine (writeStr _ _ _ ⟨(r.take k).toArray⟩ _ hbd1 (by rw [Lib.byteCells_length]; show acc.length + (r.take k).toArray.size ≤ _; rw [List.size_toArray]; omega) (by omega)).mono ?_; rintro e W2 ⟨rfl, c2, b2, k2⟩; have hbd2 : Lib.IsBuilderF 79 5 _ _ _ W2 := Or.inr c2; have hB2 := hB1.trans b2; have hz2 := builder_lt hbd2)
          | (go_at_call 63; refine (cPre (r.drop (k + 1)) _).mono ?_; rw [hpre]; rintro e W3 ⟨rfl, rfl⟩)
          | (go_at_call 64; refine (writeByte _ _ _ 34 _ hbd2 (by rw [List.length_append, Lib.byteCells_length]; show acc.length + (Lib.byteCells (r.take k)).length + 1 ≤ _; rw [Lib.byteCells_length]; omega) (by omega)).mono ?_; rintro e W4 ⟨rfl, c4, b4, k4⟩; have hbd4 : Lib.IsBuilderF 79 5 _ _ _ W4 := Or.inr c4; have hB4 := hB2.trans b4))
        go_step3
        show (0 : Nat) = 0 ∧ AtNext s at_ w _ W4 ∧ _
        have e1 : (⟨(r.drop (k + 1)).toArray⟩ : ByteArray).extract 1 (r.length - (k + 1)) = ⟨(r.drop (k + 2)).toArray⟩ := by
          apply ByteArray.ext
          simp [ByteArray.extract, ByteArray.copySlice]
          exact List.take_of_length_le (by simp; omega)
        rw [e1, show (c : Int) + ((k : Int) + 1) + 1 = ((c + (k + 1) + 1 : Nat) : Int) by omega]
        refine ⟨rfl, ⟨acc ++ (r.take k ++ [34]), r.drop (k + 2), c + (k + 1) + 1, _, _, _, _, _, _, _, _, _, _, _, _, _, _, _, _, _, _, _, _, _, _, _, _, _, _, _, _, _, _, _, _, _, _, _, _, _, _, _, _, rfl, ?_, hB4, ?_, by omega, ?_, ?_⟩, ?_⟩
        · rw [← List.append_assoc, Lib.byteCells_append, Lib.byteCells_append]; exact hbd4
        · simp; omega
        · simp; omega
        · rw [h4, txt_more hp hpre]
          cases txt (r.drop (k + 2)) with
          | none => rfl
          | some x => simp; omega
        · show (r.drop (k + 2)).toArray.size < r.toArray.size
          simp; omega
      | false =>
        cases hpl : plainQ (acc ++ r.take k) with
        | false =>
          go_wp2_with (first
          | (refine wpList_store_row rfl 35 _ _ rfl w.heap.size #[.int .i64 0, .string ⟨#[]⟩, .int .i64 0, .bool false, .string ⟨#[]⟩, .string ⟨#[]⟩] rfl rfl 35 _ hres6 (by kernel_rfl) rfl (by simp [Value.oneCell']) ?_)
          | (go_at_call 20; refine (cCut hCut r (by omega) _ hi').mono ?_; rw [hcut]; rintro e W1 ⟨rfl, b1⟩; have hbd1 := builder_below hbd b1; have hB1 := hB.trans (b1.mono (by omega)); have hz1 := builder_lt hbd1)
          | (go_at_call 55; refine (writeStr _ _ _ ⟨(r.take k).toArray⟩ _ hbd1 (by rw [Lib.byteCells_length]; show acc.length + (r.take k).toArray.size ≤ _; rw [List.size_toArray]; omega) (by omega)).mono ?_; rintro e W2 ⟨rfl, c2, b2, k2⟩; have hbd2 : Lib.IsBuilderF 79 5 _ _ (Lib.byteCells (acc ++ r.take k)) W2 := (by rw [Lib.byteCells_append]; exact Or.inr c2); have hB2 := hB1.trans b2; have hz2 := builder_lt hbd2)
          | (go_at_call 63; refine (cPre (r.drop (k + 1)) _).mono ?_; rw [hpre]; rintro e W3 ⟨rfl, rfl⟩)
          | (go_at_call 56; refine (Tryd.Builder_String_any_k _ _ _ _ hbd2 (by omega)).mono ?_; rintro e W5 ⟨rfl, hbd5, b5, k5⟩; have hB5 := hB2.trans b5; have hbw5 : Below w.heap.size w W5 := ((Below.refl _ w).alloc (Nat.le_refl _) _).trans (hB5.mono (Nat.le_succ _)); have hz5 := builder_lt hbd5)
          | (go_at_call 65; refine (cText hText (acc ++ r.take k) (by rw [List.length_append]; omega) _ (hk _ _ hw hbw5)).mono ?_; simp only [hpl, cond_true, cond_false]; rintro e W6 ⟨⟨x1, x2, x3, x4, x5, x6, rfl⟩, b6⟩; have hfl := fun a => fldV a x1 x2 x3 x4 x5 x6 W6; have hbd6 := builder_below hbd5 b6; have hB6 := hB5.trans (b6.mono (by omega)); have hz6 := builder_lt hbd6; have hres6 := (hB6.block _ (by simp)).trans (World.alloc_heap_new _ _)))
          have hT : textV s at_ = (noTok, 0, 10) := by unfold textV; rw [h4, txt_end hp hpre]; simp only [Option.map_some]; rw [hpl]; rfl
          simp only [Exit.jump]
          refine bodyPost_ret (results_three rfl _ _ w.heap.size 35 _ (0, 0) _ rfl (setRow_heap _ _ _ _ _ _ hres6) Tryd.underlying35 rfl (by kernel_rfl)) rfl ⟨by rw [hT]; rfl, below_setRow (((Below.refl _ w).alloc (Nat.le_refl _) _).trans (hB6.mono (Nat.le_succ _))) (Nat.le_refl _) _⟩
        | true =>
          go_wp2_with (first
          | (refine wpList_store_row rfl 35 _ _ rfl w.heap.size #[.int .i64 2, .string ⟨(acc ++ r.take k).toArray⟩, .int .i64 (at_ : Int), .bool false, .string ⟨#[]⟩, .string ⟨#[]⟩] rfl rfl 35 _ hres7 (by kernel_rfl) rfl (by simp [Value.oneCell']) ?_)
          | (go_at_call 20; refine (cCut hCut r (by omega) _ hi').mono ?_; rw [hcut]; rintro e W1 ⟨rfl, b1⟩; have hbd1 := builder_below hbd b1; have hB1 := hB.trans (b1.mono (by omega)); have hz1 := builder_lt hbd1)
          | (go_at_call 55; refine (writeStr _ _ _ ⟨(r.take k).toArray⟩ _ hbd1 (by rw [Lib.byteCells_length]; show acc.length + (r.take k).toArray.size ≤ _; rw [List.size_toArray]; omega) (by omega)).mono ?_; rintro e W2 ⟨rfl, c2, b2, k2⟩; have hbd2 : Lib.IsBuilderF 79 5 _ _ (Lib.byteCells (acc ++ r.take k)) W2 := (by rw [Lib.byteCells_append]; exact Or.inr c2); have hB2 := hB1.trans b2; have hz2 := builder_lt hbd2)
          | (go_at_call 63; refine (cPre (r.drop (k + 1)) _).mono ?_; rw [hpre]; rintro e W3 ⟨rfl, rfl⟩)
          | (go_at_call 56; refine (Tryd.Builder_String_any_k _ _ _ _ hbd6 (by omega)).mono ?_; rintro e W7 ⟨rfl, hbd7, b7, k7⟩; have hB7 := hB6.trans b7; have hres7 := (hB7.block _ (by simp)).trans (World.alloc_heap_new _ _))
          | (go_at_call 56; refine (Tryd.Builder_String_any_k _ _ _ _ hbd2 (by omega)).mono ?_; rintro e W5 ⟨rfl, hbd5, b5, k5⟩; have hB5 := hB2.trans b5; have hbw5 : Below w.heap.size w W5 := ((Below.refl _ w).alloc (Nat.le_refl _) _).trans (hB5.mono (Nat.le_succ _)); have hz5 := builder_lt hbd5)
          | (go_at_call 65; refine (cText hText (acc ++ r.take k) (by rw [List.length_append]; omega) _ (hk _ _ hw hbw5)).mono ?_; simp only [hpl, cond_true, cond_false]; rintro e W6 ⟨⟨x1, x2, x3, x4, x5, x6, rfl⟩, b6⟩; have hfl := fun a => fldV a x1 x2 x3 x4 x5 x6 W6; have hbd6 := builder_below hbd5 b6; have hB6 := hB5.trans (b6.mono (by omega)); have hz6 := builder_lt hbd6; have hres6 := (hB6.block _ (by simp)).trans (World.alloc_heap_new _ _)))
          have hT : textV s at_ = (((2 : Int), acc ++ r.take k, (at_ : Int), false, [], []), ((c + (k + 1) : Nat) : Int), 0) := by
            unfold textV; rw [h4, txt_end hp hpre]; simp only [Option.map_some]; rw [hpl, cond_true, show c - 1 + (k + 1) + 1 = c + (k + 1) by omega]
          simp only [Exit.jump]
          refine bodyPost_ret (results_three rfl _ _ w.heap.size 35 _ (0, 0) _ rfl (setRow_heap _ _ _ _ _ _ hres7) Tryd.underlying35 rfl (by kernel_rfl)) rfl ⟨by rw [hT]; rfl, below_setRow (((Below.refl _ w).alloc (Nat.le_refl _) _).trans (hB7.mono (Nat.le_succ _))) (Nat.le_refl _) _⟩
  · intro hrest
    go_wp2
    go_step3
    rename_i hK
    have e1 : (⟨s.toArray⟩ : ByteArray).extract (at_ + 1) s.length = ⟨(s.drop (at_ + 1)).toArray⟩ := by
      apply ByteArray.ext
      simp [ByteArray.extract, ByteArray.copySlice]
      exact List.take_of_length_le (by simp)
    rw [e1]
    refine hK _ _ (hrest _ _ ⟨[], s.drop (at_ + 1), 1, _, _, _, _, _, _, _, _, _, _, _, _, _, _, _, _, _, _, _, _, _, _, _, _, _, _, _, _, _, _, _, _, _, _, _, _, _, _, _, _, rfl, ?_, ?_, ?_, Nat.le_refl _, ?_, ?_⟩)
    · have := Lib.fresh_isBuilder 79 5 (w.alloc (.cells #[.int .i64 0, .string ⟨#[]⟩, .int .i64 0, .bool false, .string ⟨#[]⟩, .string ⟨#[]⟩] 35))
      exact Lib.IsBuilderF.of (by rw [show Lib.byteCells [] = [] from rfl]; simpa using this)
    · exact (Below.refl _ _).alloc (by simp) _
    · simp
    · simp; omega
    · cases txt (s.drop (at_ + 1)) with
      | none => rfl
      | some x => simp
abbrev TokTy : Ty := .pair (.int .i64) (.pair .str (.pair (.int .i64) (.pair .bool (.pair .str .str))))
theorem denTok {hp : Array Obj} {ok : Nat → Prop} (t : Tok) : DenL hp ok [TokTy] t [tokV t] := by
  refine ⟨_, rfl, ?_⟩
  show ∃ vs : List Value, tokV t = .agg vs.toArray ∧ DeepC hp ok TokTy t vs
  exact ⟨[.int .i64 t.1, .string ⟨t.2.1.toArray⟩, .int .i64 t.2.2.1, .bool t.2.2.2.1, .string ⟨t.2.2.2.2.1.toArray⟩, .string ⟨t.2.2.2.2.2.toArray⟩], rfl, [_], [_, _, _, _, _], rfl, rfl, [_], [_, _, _, _], rfl, rfl, [_], [_, _, _], rfl, rfl, [_], [_, _], rfl, rfl, [_], [_], rfl, rfl, rfl⟩
def lexQ (y : List UInt8 × Int) : Option (Tok × Int × Int) := cond (decide (0 ≤ y.2) && (decide (y.2 < (y.1.length : Int)) && Nat.ble y.1.length 1000000)) (some (textV y.1 y.2.toNat)) none
theorem lex_ok (hk : ∀ w w', inv w → Below w.heap.size w w' → inv w') (hi : ∀ w, inv w → MaxLen w) : CallT Tryd.prog 39 [.str, .int .i64] [TokTy, .int .i64, .int .i64] inv lexQ := by
  intro y r h w fz0 vs hfz hinv hd
  obtain ⟨hc, rfl⟩ := cond_some h
  simp only [Bool.and_eq_true, decide_eq_true_eq] at hc
  obtain ⟨v, us, rfl, d1, d2⟩ := K.unCons hd
  have e1 := K.unStr d1
  have e2 := K.unInt d2
  cases e1
  subst e2
  have e3 : y.2 = ((Int.toNat y.2 : Nat) : Int) := (Int.toNat_of_nonneg hc.1).symm
  have := mainL hk (vtext_ok hi) (K.cut_ok hi) y.1 (Int.toNat y.2) ((Int.toNat_lt hc.1).2 hc.2.1) (Nat.le_of_ble_eq_true hc.2.2) w hinv
  rw [← e3] at this
  refine this.mono fun e w' ⟨he, hb⟩ => ?_
  subst he
  exact K.retT_plain (ts := [TokTy, .int .i64, .int .i64]) [_, _, _] hb rfl (K.denCons (denTok _) (K.denCons (K.denInt _ _) (K.denInt _ _)))
end Go.Proofs.YtenebjaipfcflaaDoor.Q

/- The machine at this seat: tables, names. -/
set_option linter.unusedVariables false
set_option maxRecDepth 100000
namespace Go.Proofs.YtenebjaipfcflaaDoor.K
open Go
def look {α : Type} : List (Nat × α) → Nat → Option α
  | [], _ => none
  | (u, v) :: l, t => match Nat.beq u t with
    | true => some v
    | false => look l t
def peq : Path → Path → Bool
  | [], [] => true
  | a :: p, b :: q => Nat.beq a b && peq p q
  | _, _ => false
def lookP : List (Nat × Path × Ann) → Nat → Path → Option Ann
  | [], _, _ => none
  | (g, u, v) :: l, f, t => match Nat.beq g f && peq u t with
    | true => some v
    | false => lookP l f t
def Inv (w : World) : Prop := MaxLen w
theorem inv_max : ∀ w, Inv w → MaxLen w := fun _ h => h
theorem inv_keeps : ∀ w w', Inv w → RowKit.Below w.heap.size w w' → Inv w' := maxLen_keeps
noncomputable def ti3 : TI := { sh := (.int .i64), size := 1, bytes := 8, zero := [(.int .i64 0)], ty := some (.int .i64), fl := [], eq := false }
noncomputable def ti4 : TI := { sh := .bool, size := 1, bytes := 1, zero := [(.bool false)], ty := some .bool, fl := [], eq := false }
noncomputable def ti5 : TI := { sh := (.int .u8), size := 1, bytes := 1, zero := [(.int .u8 0)], ty := some (.int .u8), fl := [], eq := false }
noncomputable def ti9 : TI := { sh := .str, size := 1, bytes := 16, zero := [(.str [])], ty := some .str, fl := [], eq := false }
noncomputable def ti28 : TI := { sh := (.sl 35), size := 1, bytes := 24, zero := [.nilsl], ty := some (.sl (.pair (.int .i64) (.pair .str (.pair (.int .i64) (.pair .bool (.pair .str .str)))))), fl := [], eq := false }
noncomputable def ti33 : TI := { sh := (.st [(0, 4), (1, 9), (2, 9)]), size := 3, bytes := 40, zero := [(.bool false), (.str []), (.str [])], ty := some (.pair .bool (.pair .str .str)), fl := [(0, 1, false), (1, 1, false), (2, 1, false)], eq := true }
noncomputable def ti35 : TI := { sh := (.st [(0, 3), (1, 9), (2, 3), (3, 33)]), size := 6, bytes := 72, zero := [(.int .i64 0), (.str []), (.int .i64 0), (.bool false), (.str []), (.str [])], ty := some (.pair (.int .i64) (.pair .str (.pair (.int .i64) (.pair .bool (.pair .str .str))))), fl := [(0, 1, false), (1, 1, false), (2, 1, false), (3, 3, true)], eq := false }
noncomputable def ti66 : TI := { sh := (.sl 5), size := 1, bytes := 24, zero := [.nilsl], ty := some (.sl (.int .u8)), fl := [], eq := false }
noncomputable def ti100 : TI := { sh := (.st [(0, 4), (1, 9)]), size := 2, bytes := 24, zero := [(.bool false), (.str [])], ty := some (.pair .bool .str), fl := [(0, 1, false), (1, 1, false)], eq := false }
noncomputable def ti103 : TI := { sh := (.int .u64), size := 1, bytes := 8, zero := [(.int .u64 0)], ty := some (.int .u64), fl := [], eq := false }
noncomputable def ti105 : TI := { sh := (.arr 8 9), size := 8, bytes := 128, zero := [(.str []), (.str []), (.str []), (.str []), (.str []), (.str []), (.str []), (.str [])], ty := none, fl := [], eq := false }
noncomputable def tis : List (Nat × TI) := [(3, ti3), (4, ti4), (5, ti5), (9, ti9), (28, ti28), (33, ti33), (35, ti35), (66, ti66), (100, ti100), (103, ti103), (105, ti105)]
noncomputable def fns : List (Nat × Func) := [(4, Tryd.f4), (8, Tryd.f8), (9, Tryd.f9), (10, Tryd.f10), (19, Tryd.f19), (20, Tryd.f20), (37, Tryd.f37), (38, Tryd.f38), (39, Tryd.f39), (40, Tryd.f40), (41, Tryd.f41), (42, Tryd.f42), (62, Tryd.f62), (63, Tryd.f63), (66, Tryd.f66), (68, Tryd.f68), (73, Tryd.f73), (74, Tryd.f74), (75, Tryd.f75), (76, Tryd.f76), (77, Tryd.f77), (88, Tryd.f88), (89, Tryd.f89), (90, Tryd.f90), (91, Tryd.f91), (92, Tryd.f92), (93, Tryd.f93), (94, Tryd.f94), (95, Tryd.f95), (35, Tryd.f35), (36, Tryd.f36), (80, Tryd.f80)]
def inls : List Nat := [35, 36, 80]
noncomputable def ptsL : List (Nat × List Ty) := [(4, [.str]), (8, [.str]), (9, []), (10, [.str]), (19, [.str, (.int .i64)]), (20, [.str, .str]), (37, [(.int .u8)]), (38, [.str, (.int .i64)]), (39, [.str, (.int .i64)]), (40, [.str, (.int .i64)]), (41, [(.int .u8)]), (42, [.str]), (62, [.str]), (63, [.str, .str]), (66, [(.int .i64)]), (68, [.str, .str]), (73, [.str]), (74, [.str]), (75, [(.pair .bool .str), (.pair .bool .str)]), (76, [.bool, .str]), (77, [(.int .u64), (.int .i64)]), (88, [.str]), (89, [.str, .str]), (90, [.str, .str]), (91, [(.int .u64)]), (92, [.str]), (93, [.str, .str]), (94, [.str, .str]), (95, [.str, (.int .i64)])]
noncomputable def rtsL : List (Nat × List Ty) := [(4, [.bool]), (8, [(.sl (.pair (.int .i64) (.pair .str (.pair (.int .i64) (.pair .bool (.pair .str .str)))))), (.int .i64), (.int .i64)]), (9, [.bool]), (10, [.str]), (19, [(.pair (.int .i64) (.pair .str (.pair (.int .i64) (.pair .bool (.pair .str .str))))), (.int .i64), (.int .i64)]), (20, [.str, .str, .bool]), (37, [.bool]), (38, [(.pair (.int .i64) (.pair .str (.pair (.int .i64) (.pair .bool (.pair .str .str))))), (.int .i64), (.int .i64)]), (39, [(.pair (.int .i64) (.pair .str (.pair (.int .i64) (.pair .bool (.pair .str .str))))), (.int .i64), (.int .i64)]), (40, [(.pair (.int .i64) (.pair .str (.pair (.int .i64) (.pair .bool (.pair .str .str))))), (.int .i64), (.int .i64)]), (41, [.bool]), (42, [(.int .i64), (.int .i64)]), (62, [(.pair .bool (.pair .str .str)), (.int .i64)]), (63, [.bool]), (66, [.str]), (68, [.bool]), (73, [.bool]), (74, [.str, (.int .i64)]), (75, [(.pair .bool (.pair .str .str)), (.int .i64)]), (76, [(.pair .bool .str)]), (77, [.str]), (88, [.bool]), (89, [.str]), (90, [.str]), (91, [.str]), (92, [.str]), (93, [.str]), (94, [.str, .str, (.int .i64)]), (95, [.str, (.int .i64)])]
noncomputable def annL : List (Nat × List (Nat × Path × Ann)) := [
  (4, [(4, [0, 1, 0, 1, 1, 1, 1, 1], { live := [(0, .keep), (3, .im (.sl (.pair (.int .i64) (.pair .str (.pair (.int .i64) (.pair .bool (.pair .str .str))))))), (6, .keep), (7, .keep), (8, .keep)], toks := [] }),
    (4, [0, 0, 1, 1, 0, 0, 1, 0, 0, 1, 0, 1, 1, 1, 1, 1], { live := [(0, .keep), (3, .im (.sl (.pair (.int .i64) (.pair .str (.pair (.int .i64) (.pair .bool (.pair .str .str))))))), (6, .keep), (7, .keep), (8, .keep), (9, .keep)], toks := [] }),
    (4, [1, 1, 0, 0, 1, 0, 0, 1, 0, 1, 1, 1, 1, 1], { live := [(0, .keep), (3, .im (.sl (.pair (.int .i64) (.pair .str (.pair (.int .i64) (.pair .bool (.pair .str .str))))))), (6, .keep), (7, .keep), (8, .keep), (9, .keep)], toks := [] }),
    (4, [1, 0, 1, 1, 1, 1, 1, 1, 1, 1], { live := [(3, .im (.sl (.pair (.int .i64) (.pair .str (.pair (.int .i64) (.pair .bool (.pair .str .str))))))), (10, .im (.sl (.pair (.int .i64) (.pair .str (.pair (.int .i64) (.pair .bool (.pair .str .str))))))), (116, .keep)], toks := [] }),
    (4, [0, 1, 0, 1, 1, 1, 1, 1, 1, 1, 1, 1], { live := [(3, .im (.sl (.pair (.int .i64) (.pair .str (.pair (.int .i64) (.pair .bool (.pair .str .str))))))), (10, .im (.sl (.pair (.int .i64) (.pair .str (.pair (.int .i64) (.pair .bool (.pair .str .str))))))), (13, .keep)], toks := [] }),
    (4, [1, 0, 1, 1, 1, 0, 0, 1, 0, 0, 1, 0, 1, 1, 1, 1, 1], { live := [(0, .keep), (3, .im (.sl (.pair (.int .i64) (.pair .str (.pair (.int .i64) (.pair .bool (.pair .str .str))))))), (6, .keep), (7, .keep), (8, .keep), (9, .keep), (80, .keep)], toks := [] }),
    (4, [1, 0, 0, 0, 0, 1, 1, 0, 0, 1, 0, 0, 1, 0, 1, 1, 1, 1, 1], { live := [(0, .keep), (3, .im (.sl (.pair (.int .i64) (.pair .str (.pair (.int .i64) (.pair .bool (.pair .str .str))))))), (6, .keep), (7, .keep), (8, .keep), (9, .keep), (51, .keep)], toks := [] }),
    (4, [1, 0, 0, 1, 0, 0, 1, 0, 1, 1, 1, 1, 1, 1, 1, 1, 1], { live := [(3, .im (.sl (.pair (.int .i64) (.pair .str (.pair (.int .i64) (.pair .bool (.pair .str .str))))))), (10, .im (.sl (.pair (.int .i64) (.pair .str (.pair (.int .i64) (.pair .bool (.pair .str .str))))))), (13, .keep), (159, .keep)], toks := [] }),
    (4, [1, 1, 1, 1, 1, 1, 0, 0, 1, 0, 0, 1, 0, 1, 1, 1, 1, 1], { live := [(0, .keep), (3, .im (.sl (.pair (.int .i64) (.pair .str (.pair (.int .i64) (.pair .bool (.pair .str .str))))))), (6, .keep), (7, .keep), (8, .keep), (9, .keep)], toks := [] })]),
  (8, [(8, [0, 1, 1, 1, 1], { live := [(0, .keep), (5, .own 1099511627776 (.pair (.int .i64) (.pair .str (.pair (.int .i64) (.pair .bool (.pair .str .str)))))), (6, .keep)], toks := [] })]),
  (10, [(10, [0, 1, 0, 1, 1], { live := [(0, .keep), (3, .keep), (4, .keep)], toks := [] }),
    (10, [1, 0, 0, 1, 0, 0, 1, 0, 1, 1], { live := [(0, .keep), (3, .keep), (4, .keep)], toks := [] })]),
  (19, [(19, [1, 0, 1, 1, 1, 0, 1], { live := [(0, .keep), (1, .keep), (4, .keep), (7, .keep), (9, .keep), (18, .keep)], toks := [(64, [.keep, .keep, .keep, .keep, .keep, .keep]), (112, [.keep, .keep, .keep, .keep, .keep, .keep])] }),
    (19, [1000003, 0, 1, 1, 1, 1, 0, 1], { live := [(0, .keep), (4, .keep), (7, .keep), (9, .keep), (20, .keep)], toks := [] }),
    (35, [0, 0, 1, 1], { live := [(0, .keep), (1, .keep), (2, .keep), (7, .keep)], toks := [(64, [.keep, .keep, .keep, .keep, .keep, .keep]), (112, [.keep, .keep, .keep, .keep, .keep, .keep])] }),
    (35, [1000013, 0, 0, 0, 0, 0, 1, 1], { live := [(0, .keep), (1, .keep), (2, .keep), (7, .keep), (14, .keep)], toks := [] }),
    (19, [1, 1, 1, 1, 1, 1, 1, 0, 1], { live := [(1, .keep), (4, .keep), (7, .keep), (8, .keep), (9, .keep)], toks := [(64, [.keep, .keep, .keep, .keep, .keep, .keep]), (112, [.keep, .keep, .keep, .keep, .keep, .keep])] }),
    (19, [1000002, 0, 0, 1, 1, 1, 1, 1, 1, 1, 0, 1, 0, 1, 1, 1, 1, 1, 1, 0, 1], { live := [(0, .keep), (1, .keep), (4, .keep), (7, .keep), (9, .keep)], toks := [] }),
    (19, [2, 1], { live := [(1, .keep), (4, .keep), (7, .keep), (8, .keep), (9, .keep)], toks := [(64, [.keep, .keep, .keep, .keep, .keep, .keep]), (112, [.keep, .keep, .keep, .keep, .keep, .keep])] }),
    (35, [1, 0, 0, 0, 0, 1, 1], { live := [(0, .keep), (1, .keep), (2, .keep), (7, .keep), (22, .keep)], toks := [(64, [.keep, .keep, .keep, .keep, .keep, .keep]), (112, [.keep, .keep, .keep, .keep, .keep, .keep])] })]),
  (38, [(38, [1000002, 0, 1], { live := [(0, .keep), (1, .keep), (4, .keep)], toks := [] }),
    (35, [0, 0, 1, 1], { live := [(0, .keep), (1, .keep), (2, .keep), (7, .keep)], toks := [(64, [.keep, .keep, .keep, .keep, .keep, .keep])] }),
    (38, [1000005, 0, 0, 1, 1], { live := [(0, .keep), (1, .keep), (4, .keep), (7, .keep)], toks := [] }),
    (35, [1, 0, 0, 0, 0, 1, 1], { live := [(0, .keep), (1, .keep), (2, .keep), (7, .keep), (22, .keep)], toks := [(64, [.keep, .keep, .keep, .keep, .keep, .keep])] }),
    (38, [1, 1, 1], { live := [(0, .keep), (1, .keep), (4, .keep), (7, .keep)], toks := [(64, [.keep, .keep, .keep, .keep, .keep, .keep])] }),
    (38, [1, 1, 0, 1, 1], { live := [(0, .keep), (1, .keep), (4, .keep), (7, .keep), (8, .keep), (29, .keep)], toks := [(64, [.keep, .keep, .keep, .keep, .keep, .keep])] })]),
  (40, [(40, [0, 1, 0, 1, 1], { live := [(0, .keep), (1, .keep), (4, .keep), (7, .keep), (8, .keep)], toks := [(64, [.keep, .keep, .keep, .keep, .keep, .keep])] }),
    (40, [1, 1, 0, 0, 1, 0, 1, 1], { live := [(0, .keep), (1, .keep), (4, .keep), (7, .keep), (8, .keep)], toks := [(64, [.keep, .keep, .keep, .keep, .keep, .keep])] }),
    (40, [1, 1, 0, 0, 1, 0, 0, 1, 0, 1, 1], { live := [(0, .keep), (1, .keep), (4, .keep), (7, .keep), (8, .keep), (9, .keep), (27, .keep)], toks := [(64, [.keep, .keep, .keep, .keep, .keep, .keep])] })]),
  (42, [(42, [1, 1, 0, 0, 0, 1, 0, 1], { live := [(38, .keep)], toks := [] }),
    (42, [1, 0, 0, 0, 1, 0, 1], { live := [(0, .keep)], toks := [] }),
    (42, [1, 1, 1, 1, 1, 1, 1, 1, 0, 0, 0, 0, 0, 0, 0, 0, 0, 0, 0, 0, 0, 0, 0, 0, 0, 0, 1, 0, 1], { live := [(20, .keep)], toks := [] })]),
  (62, [(62, [1, 0, 0, 1, 1], { live := [(0, .keep), (2, .keep), (4, .keep), (5, .keep), (15, .keep)], toks := [(32, [.keep, .keep, .keep])] })]),
  (66, [(66, [1000000, 0, 1], { live := [(0, .keep)], toks := [] }),
    (66, [1, 0, 1, 1], { live := [(0, .keep), (3, .keep), (10, .keep)], toks := [(48, [.keep, .keep, .keep, .keep, .keep, .keep, .keep, .keep])] })]),
  (73, [(73, [0, 1, 0, 1], { live := [(0, .keep), (6, .im (.sl (.int .u8))), (7, .keep), (8, .keep)], toks := [] }),
    (73, [1, 1, 0, 0, 1, 1, 0, 0, 1, 0, 1], { live := [(0, .keep), (6, .im (.sl (.int .u8))), (7, .keep), (8, .keep), (17, .keep)], toks := [] })]),
  (74, [(74, [1, 0, 0, 1], { live := [(0, .keep), (10, .keep)], toks := [] }),
    (74, [0, 0, 1, 1, 1], { live := [(0, .keep), (4, .keep)], toks := [] }),
    (74, [0, 1, 0, 1, 1, 0, 1, 0, 0, 0, 1, 1, 1], { live := [(0, .keep), (4, .keep), (5, .keep), (6, .keep), (7, .keep), (30, .im (.sl (.int .u8))), (31, .keep), (32, .keep)], toks := [] })]),
  (75, [(75, [1, 0, 1, 1, 1, 1], { live := [(2, .keep), (3, .keep), (4, .keep), (6, .keep), (7, .keep), (44, .keep)], toks := [(32, [.keep, .keep]), (48, [.keep, .keep]), (64, [.keep, .keep, .keep])] }),
    (75, [1, 1, 1, 1], { live := [(2, .keep), (3, .keep), (4, .keep), (6, .keep), (7, .keep)], toks := [(32, [.keep, .keep]), (48, [.keep, .keep]), (64, [.keep, .keep, .keep])] })]),
  (88, [(88, [0, 1, 0, 1], { live := [(6, .im (.sl (.int .u8))), (7, .keep), (8, .keep)], toks := [] }),
    (88, [1, 1, 0, 0, 1, 1, 0, 0, 1, 0, 1], { live := [(6, .im (.sl (.int .u8))), (7, .keep), (8, .keep), (17, .keep)], toks := [] })])]
noncomputable def extL : List ((j : Nat) × (den (tyL ((look ptsL j).getD [])) → Option (den (tyL ((look rtsL j).getD []))))) := [⟨20, cutF⟩, ⟨39, Q.lexQ⟩, ⟨89, Q.addQ⟩, ⟨90, Q.mulQ⟩, ⟨91, Q.ofQ⟩, ⟨92, Q.trimQ⟩, ⟨93, Q.gcdQ⟩, ⟨94, Q.divQ⟩, ⟨95, Q.powQ⟩]
noncomputable def CT : Ctx where
  ti := look tis
  fn := look fns
  disp := fun _ f _ => match inls.elem f with
    | true => .inl
    | false => .spec f
  fid := fun i => i
  pts := fun i => (look ptsL i).getD []
  rts := fun i => (look rtsL i).getD []
  ext := lookE extL
  ann := fun i f p => match look annL i with
    | some l => lookP l f p
    | none => none
  inv := Inv
noncomputable abbrev abacistlaw12_LexAgain (x0 : List UInt8) : Option (Bool) := (top CT).callF 4 (x0)
noncomputable abbrev abacistlaw12_LexAgain_1 (a1 : List UInt8) (a2 : List (Int × List UInt8 × Int × Bool × List UInt8 × List UInt8)) (a3 : List UInt8) (a4 : Int) (a5 : Int) : Option (Bool) := (top CT).stage 4 [] 4 [0, 1, 0, 1, 1, 1, 1, 1] { env := [(0, (.str a1)), (3, (.sl (.pair (.int .i64) (.pair .str (.pair (.int .i64) (.pair .bool (.pair .str .str))))) a2 false)), (6, (.str a3)), (7, (.int .i64 a4)), (8, (.int .i64 a5))], heap := [], salt := 0 }
noncomputable abbrev abacistlaw12_LexAgain_2 (a1 : List UInt8) (a2 : List (Int × List UInt8 × Int × Bool × List UInt8 × List UInt8)) (a3 : List UInt8) (a4 : Int) (a5 : Int) (a6 : List UInt8) : Option (Bool) := (top CT).stage 4 [] 4 [1, 1, 0, 0, 1, 0, 0, 1, 0, 1, 1, 1, 1, 1] { env := [(0, (.str a1)), (3, (.sl (.pair (.int .i64) (.pair .str (.pair (.int .i64) (.pair .bool (.pair .str .str))))) a2 false)), (6, (.str a3)), (7, (.int .i64 a4)), (8, (.int .i64 a5)), (9, (.str a6))], heap := [], salt := 0 }
noncomputable abbrev abacistlaw12_LexAgain_3 (a1 : List (Int × List UInt8 × Int × Bool × List UInt8 × List UInt8)) (a2 : List (Int × List UInt8 × Int × Bool × List UInt8 × List UInt8)) (a3 : Bool) : Option (Bool) := (top CT).stage 4 [] 4 [1, 0, 1, 1, 1, 1, 1, 1, 1, 1] { env := [(3, (.sl (.pair (.int .i64) (.pair .str (.pair (.int .i64) (.pair .bool (.pair .str .str))))) a1 false)), (10, (.sl (.pair (.int .i64) (.pair .str (.pair (.int .i64) (.pair .bool (.pair .str .str))))) a2 false)), (116, (.bool a3))], heap := [], salt := 0 }
noncomputable abbrev abacistlaw12_LexAgain_4 (a1 : List UInt8) (a2 : List (Int × List UInt8 × Int × Bool × List UInt8 × List UInt8)) (a3 : List UInt8) (a4 : Int) (a5 : Int) (a6 : List UInt8) : Option (Bool) := (top CT).stage 4 [] 4 [0, 0, 1, 1, 0, 0, 1, 0, 0, 1, 0, 1, 1, 1, 1, 1] { env := [(0, (.str a1)), (3, (.sl (.pair (.int .i64) (.pair .str (.pair (.int .i64) (.pair .bool (.pair .str .str))))) a2 false)), (6, (.str a3)), (7, (.int .i64 a4)), (8, (.int .i64 a5)), (9, (.str a6))], heap := [], salt := 0 }
noncomputable abbrev abacistlaw12_LexAgain_5 (a1 : List (Int × List UInt8 × Int × Bool × List UInt8 × List UInt8)) (a2 : List (Int × List UInt8 × Int × Bool × List UInt8 × List UInt8)) (a3 : Int) : Option (Bool) := (top CT).stage 4 [] 4 [0, 1, 0, 1, 1, 1, 1, 1, 1, 1, 1, 1] { env := [(3, (.sl (.pair (.int .i64) (.pair .str (.pair (.int .i64) (.pair .bool (.pair .str .str))))) a1 false)), (10, (.sl (.pair (.int .i64) (.pair .str (.pair (.int .i64) (.pair .bool (.pair .str .str))))) a2 false)), (13, (.int .i64 a3))], heap := [], salt := 0 }
noncomputable abbrev abacistlaw12_LexAgain_6 (a1 : List UInt8) (a2 : List (Int × List UInt8 × Int × Bool × List UInt8 × List UInt8)) (a3 : List UInt8) (a4 : Int) (a5 : Int) (a6 : List UInt8) (a7 : Bool) : Option (Bool) := (top CT).stage 4 [] 4 [1, 0, 0, 0, 0, 1, 1, 0, 0, 1, 0, 0, 1, 0, 1, 1, 1, 1, 1] { env := [(0, (.str a1)), (3, (.sl (.pair (.int .i64) (.pair .str (.pair (.int .i64) (.pair .bool (.pair .str .str))))) a2 false)), (6, (.str a3)), (7, (.int .i64 a4)), (8, (.int .i64 a5)), (9, (.str a6)), (51, (.bool a7))], heap := [], salt := 0 }
noncomputable abbrev abacistlaw12_LexAgain_7 (a1 : List (Int × List UInt8 × Int × Bool × List UInt8 × List UInt8)) (a2 : List (Int × List UInt8 × Int × Bool × List UInt8 × List UInt8)) (a3 : Int) (a4 : Bool) : Option (Bool) := (top CT).stage 4 [] 4 [1, 0, 0, 1, 0, 0, 1, 0, 1, 1, 1, 1, 1, 1, 1, 1, 1] { env := [(3, (.sl (.pair (.int .i64) (.pair .str (.pair (.int .i64) (.pair .bool (.pair .str .str))))) a1 false)), (10, (.sl (.pair (.int .i64) (.pair .str (.pair (.int .i64) (.pair .bool (.pair .str .str))))) a2 false)), (13, (.int .i64 a3)), (159, (.bool a4))], heap := [], salt := 0 }
noncomputable abbrev abacistlaw12_LexAgain_8 (a1 : List UInt8) (a2 : List (Int × List UInt8 × Int × Bool × List UInt8 × List UInt8)) (a3 : List UInt8) (a4 : Int) (a5 : Int) (a6 : List UInt8) (a7 : Bool) : Option (Bool) := (top CT).stage 4 [] 4 [1, 0, 1, 1, 1, 0, 0, 1, 0, 0, 1, 0, 1, 1, 1, 1, 1] { env := [(0, (.str a1)), (3, (.sl (.pair (.int .i64) (.pair .str (.pair (.int .i64) (.pair .bool (.pair .str .str))))) a2 false)), (6, (.str a3)), (7, (.int .i64 a4)), (8, (.int .i64 a5)), (9, (.str a6)), (80, (.bool a7))], heap := [], salt := 0 }
noncomputable abbrev abacistlaw12_LexAgain_9 (a1 : List UInt8) (a2 : List (Int × List UInt8 × Int × Bool × List UInt8 × List UInt8)) (a3 : List UInt8) (a4 : Int) (a5 : Int) (a6 : List UInt8) : Option (Bool) := (top CT).stage 4 [] 4 [1, 1, 1, 1, 1, 1, 0, 0, 1, 0, 0, 1, 0, 1, 1, 1, 1, 1] { env := [(0, (.str a1)), (3, (.sl (.pair (.int .i64) (.pair .str (.pair (.int .i64) (.pair .bool (.pair .str .str))))) a2 false)), (6, (.str a3)), (7, (.int .i64 a4)), (8, (.int .i64 a5)), (9, (.str a6))], heap := [], salt := 0 }
noncomputable abbrev lex_All (x0 : List UInt8) : Option ((List (Int × List UInt8 × Int × Bool × List UInt8 × List UInt8)) × Int × Int) := (top CT).callF 8 (x0)
noncomputable abbrev lex_All_1 (a1 : List UInt8) (a2 : Int) (a3 : List (Int × List UInt8 × Int × Bool × List UInt8 × List UInt8)) : Option ((List (Int × List UInt8 × Int × Bool × List UInt8 × List UInt8)) × Int × Int) := (top CT).stage 8 [] 8 [0, 1, 1, 1, 1] { env := [(0, (.str a1)), (5, (.who 1099511627776 false)), (6, (.int .i64 a2))], heap := [(1099511627776, .arr (.pair (.int .i64) (.pair .str (.pair (.int .i64) (.pair .bool (.pair .str .str))))) a3)], salt := 0 }
noncomputable abbrev abacistlaw12_known : Option (Bool) := (top CT).callF 9 ()
noncomputable abbrev abacistlaw12_quoted (x0 : List UInt8) : Option (List UInt8) := (top CT).callF 10 (x0)
noncomputable abbrev abacistlaw12_quoted_1 (a1 : List UInt8) (a2 : List UInt8) (a3 : Int) : Option (List UInt8) := (top CT).stage 10 [] 10 [0, 1, 0, 1, 1] { env := [(0, (.str a1)), (3, (.str a2)), (4, (.int .i64 a3))], heap := [], salt := 0 }
noncomputable abbrev abacistlaw12_quoted_2 (a1 : List UInt8) (a2 : List UInt8) (a3 : Int) : Option (List UInt8) := (top CT).stage 10 [] 10 [1, 0, 0, 1, 0, 0, 1, 0, 1, 1] { env := [(0, (.str a1)), (3, (.str a2)), (4, (.int .i64 a3))], heap := [], salt := 0 }
noncomputable abbrev lex_Next (x0 : List UInt8) (x1 : Int) : Option ((Int × List UInt8 × Int × Bool × List UInt8 × List UInt8) × Int × Int) := (top CT).callF 19 (x0, x1)
noncomputable abbrev lex_Next_1 (a1 : List UInt8) (a2 : Int) (a3 : Int) (a4 : Bool) (a5 : Int × List UInt8 × Int × Bool × List UInt8 × List UInt8) (a6 : Int × List UInt8 × Int × Bool × List UInt8 × List UInt8) : Option ((Int × List UInt8 × Int × Bool × List UInt8 × List UInt8) × Int × Int) := (top CT).stage 19 [] 19 [1, 0, 1, 1, 1, 0, 1] { env := [(0, (.str a1)), (1, (.int .i64 a2)), (4, (.ptr 64 0)), (7, (.ptr 112 0)), (9, (.int .i64 a3)), (18, (.bool a4))], heap := [(64, .box [(.int .i64 a5.1), (.str a5.2.1), (.int .i64 a5.2.2.1), (.bool a5.2.2.2.1), (.str a5.2.2.2.2.1), (.str a5.2.2.2.2.2)]), (112, .box [(.int .i64 a6.1), (.str a6.2.1), (.int .i64 a6.2.2.1), (.bool a6.2.2.2.1), (.str a6.2.2.2.2.1), (.str a6.2.2.2.2.2)])], salt := 0 }
noncomputable abbrev lex_Next_2 (a1 : List UInt8) (a2 : Int) (a3 : Int × List UInt8 × Int × Bool × List UInt8 × List UInt8) (a4 : Int × List UInt8 × Int × Bool × List UInt8 × List UInt8) (a5 : List UInt8) (a6 : Int) (a7 : Int) : Option ((Int × List UInt8 × Int × Bool × List UInt8 × List UInt8) × Int × Int) := (top CT).stage 19 [{ f := 19, path := [0, 1, 1, 1, 1, 0, 1], op := 3, rest := [4, 5], env := [(0, (.str a5)), (4, (.ptr 64 0)), (7, (.ptr 112 0)), (9, (.int .i64 a6)), (20, (.int .i64 a7))], salt := 0 }] 35 [] { env := [(0, (.str a1)), (1, (.int .i64 a2)), (2, (.func 36 [] []))], heap := [(64, .box [(.int .i64 a3.1), (.str a3.2.1), (.int .i64 a3.2.2.1), (.bool a3.2.2.2.1), (.str a3.2.2.2.2.1), (.str a3.2.2.2.2.2)]), (112, .box [(.int .i64 a4.1), (.str a4.2.1), (.int .i64 a4.2.2.1), (.bool a4.2.2.2.1), (.str a4.2.2.2.2.1), (.str a4.2.2.2.2.2)])], salt := 24 }
noncomputable abbrev lex_Next_3 (a1 : List UInt8) (a2 : Int) (a3 : Int) (a4 : Int × List UInt8 × Int × Bool × List UInt8 × List UInt8) (a5 : Int × List UInt8 × Int × Bool × List UInt8 × List UInt8) (a6 : List UInt8) (a7 : Int) (a8 : Int) : Option ((Int × List UInt8 × Int × Bool × List UInt8 × List UInt8) × Int × Int) := (top CT).stage 19 [{ f := 19, path := [0, 1, 1, 1, 1, 0, 1], op := 3, rest := [4, 5], env := [(0, (.str a6)), (4, (.ptr 64 0)), (7, (.ptr 112 0)), (9, (.int .i64 a7)), (20, (.int .i64 a8))], salt := 0 }] 35 [0, 0, 1, 1] { env := [(0, (.str a1)), (1, (.int .i64 a2)), (2, (.func 36 [] [])), (7, (.int .i64 a3))], heap := [(64, .box [(.int .i64 a4.1), (.str a4.2.1), (.int .i64 a4.2.2.1), (.bool a4.2.2.2.1), (.str a4.2.2.2.2.1), (.str a4.2.2.2.2.2)]), (112, .box [(.int .i64 a5.1), (.str a5.2.1), (.int .i64 a5.2.2.1), (.bool a5.2.2.2.1), (.str a5.2.2.2.2.1), (.str a5.2.2.2.2.2)])], salt := 24 }
noncomputable abbrev lex_Next_4 (a1 : Int) (a2 : Int × List UInt8 × Int × Bool × List UInt8 × List UInt8) (a3 : Int × List UInt8 × Int × Bool × List UInt8 × List UInt8) (a4 : List UInt8) (a5 : Int) (a6 : Int) (a7 : Bool) (a8 : List UInt8) (a9 : Int) (a10 : Int) : Option ((Int × List UInt8 × Int × Bool × List UInt8 × List UInt8) × Int × Int) := (top CT).stage 19 [{ f := 35, path := [0, 0, 0, 0, 0, 1, 1], op := 13, rest := [14], env := [(0, (.str a4)), (1, (.int .i64 a5)), (2, (.func 36 [] [])), (7, (.int .i64 a6)), (14, (.bool a7))], salt := 24 }, { f := 19, path := [0, 1, 1, 1, 1, 0, 1], op := 3, rest := [4, 5], env := [(0, (.str a8)), (4, (.ptr 64 0)), (7, (.ptr 112 0)), (9, (.int .i64 a9)), (20, (.int .i64 a10))], salt := 0 }] 36 [] { env := [(0, (.int .u8 a1))], heap := [(64, .box [(.int .i64 a2.1), (.str a2.2.1), (.int .i64 a2.2.2.1), (.bool a2.2.2.2.1), (.str a2.2.2.2.2.1), (.str a2.2.2.2.2.2)]), (112, .box [(.int .i64 a3.1), (.str a3.2.1), (.int .i64 a3.2.2.1), (.bool a3.2.2.2.1), (.str a3.2.2.2.2.1), (.str a3.2.2.2.2.2)])], salt := 98326 }
noncomputable abbrev lex_Next_5 (a1 : List UInt8) (a2 : Int) (a3 : Int) (a4 : Bool) (a5 : Int × List UInt8 × Int × Bool × List UInt8 × List UInt8) (a6 : Int × List UInt8 × Int × Bool × List UInt8 × List UInt8) (a7 : List UInt8) (a8 : Int) (a9 : Int) : Option ((Int × List UInt8 × Int × Bool × List UInt8 × List UInt8) × Int × Int) := (top CT).stage 19 [{ f := 19, path := [0, 1, 1, 1, 1, 0, 1], op := 3, rest := [4, 5], env := [(0, (.str a7)), (4, (.ptr 64 0)), (7, (.ptr 112 0)), (9, (.int .i64 a8)), (20, (.int .i64 a9))], salt := 0 }] 35 [1, 0, 0, 0, 0, 1, 1] { env := [(0, (.str a1)), (1, (.int .i64 a2)), (2, (.func 36 [] [])), (7, (.int .i64 a3)), (22, (.bool a4))], heap := [(64, .box [(.int .i64 a5.1), (.str a5.2.1), (.int .i64 a5.2.2.1), (.bool a5.2.2.2.1), (.str a5.2.2.2.2.1), (.str a5.2.2.2.2.2)]), (112, .box [(.int .i64 a6.1), (.str a6.2.1), (.int .i64 a6.2.2.1), (.bool a6.2.2.2.1), (.str a6.2.2.2.2.1), (.str a6.2.2.2.2.2)])], salt := 24 }
noncomputable abbrev lex_Next_6 (a1 : Int) (a2 : Int) (a3 : Int) (a4 : Int × List UInt8 × Int × Bool × List UInt8 × List UInt8) (a5 : Int × List UInt8 × Int × Bool × List UInt8 × List UInt8) : Option ((Int × List UInt8 × Int × Bool × List UInt8 × List UInt8) × Int × Int) := (top CT).stage 19 [] 19 [1, 1, 1, 1, 1, 1, 1, 0, 1] { env := [(1, (.int .i64 a1)), (4, (.ptr 64 0)), (7, (.ptr 112 0)), (8, (.int .i64 a2)), (9, (.int .i64 a3))], heap := [(64, .box [(.int .i64 a4.1), (.str a4.2.1), (.int .i64 a4.2.2.1), (.bool a4.2.2.2.1), (.str a4.2.2.2.2.1), (.str a4.2.2.2.2.2)]), (112, .box [(.int .i64 a5.1), (.str a5.2.1), (.int .i64 a5.2.2.1), (.bool a5.2.2.2.1), (.str a5.2.2.2.2.1), (.str a5.2.2.2.2.2)])], salt := 0 }
noncomputable abbrev lex_Next_7 (a1 : List UInt8) (a2 : Int) (a3 : Int × List UInt8 × Int × Bool × List UInt8 × List UInt8) (a4 : Int × List UInt8 × Int × Bool × List UInt8 × List UInt8) (a5 : List UInt8) (a6 : Int) (a7 : Int) : Option ((Int × List UInt8 × Int × Bool × List UInt8 × List UInt8) × Int × Int) := (top CT).stage 19 [{ f := 19, path := [0, 0, 1, 1, 1, 1, 1, 1, 1, 0, 1, 0, 1, 1, 1, 1, 1, 1, 0, 1], op := 2, rest := [3], env := [(0, (.str a5)), (1, (.int .i64 a6)), (4, (.ptr 64 0)), (7, (.ptr 112 0)), (9, (.int .i64 a7))], salt := 0 }] 35 [] { env := [(0, (.str a1)), (1, (.int .i64 a2)), (2, (.func 41 [] []))], heap := [(64, .box [(.int .i64 a3.1), (.str a3.2.1), (.int .i64 a3.2.2.1), (.bool a3.2.2.2.1), (.str a3.2.2.2.2.1), (.str a3.2.2.2.2.2)]), (112, .box [(.int .i64 a4.1), (.str a4.2.1), (.int .i64 a4.2.2.1), (.bool a4.2.2.2.1), (.str a4.2.2.2.2.1), (.str a4.2.2.2.2.2)])], salt := 90 }
noncomputable abbrev lex_Next_8 (a1 : Int) (a2 : Int) (a3 : Int) (a4 : Int × List UInt8 × Int × Bool × List UInt8 × List UInt8) (a5 : Int × List UInt8 × Int × Bool × List UInt8 × List UInt8) : Option ((Int × List UInt8 × Int × Bool × List UInt8 × List UInt8) × Int × Int) := (top CT).stage 19 [] 19 [2, 1] { env := [(1, (.int .i64 a1)), (4, (.ptr 64 0)), (7, (.ptr 112 0)), (8, (.int .i64 a2)), (9, (.int .i64 a3))], heap := [(64, .box [(.int .i64 a4.1), (.str a4.2.1), (.int .i64 a4.2.2.1), (.bool a4.2.2.2.1), (.str a4.2.2.2.2.1), (.str a4.2.2.2.2.2)]), (112, .box [(.int .i64 a5.1), (.str a5.2.1), (.int .i64 a5.2.2.1), (.bool a5.2.2.2.1), (.str a5.2.2.2.2.1), (.str a5.2.2.2.2.2)])], salt := 0 }
noncomputable abbrev lex_Next_9 (a1 : List UInt8) (a2 : Int) (a3 : Int) (a4 : Int × List UInt8 × Int × Bool × List UInt8 × List UInt8) (a5 : Int × List UInt8 × Int × Bool × List UInt8 × List UInt8) (a6 : List UInt8) (a7 : Int) (a8 : Int) : Option ((Int × List UInt8 × Int × Bool × List UInt8 × List UInt8) × Int × Int) := (top CT).stage 19 [{ f := 19, path := [0, 0, 1, 1, 1, 1, 1, 1, 1, 0, 1, 0, 1, 1, 1, 1, 1, 1, 0, 1], op := 2, rest := [3], env := [(0, (.str a6)), (1, (.int .i64 a7)), (4, (.ptr 64 0)), (7, (.ptr 112 0)), (9, (.int .i64 a8))], salt := 0 }] 35 [0, 0, 1, 1] { env := [(0, (.str a1)), (1, (.int .i64 a2)), (2, (.func 41 [] [])), (7, (.int .i64 a3))], heap := [(64, .box [(.int .i64 a4.1), (.str a4.2.1), (.int .i64 a4.2.2.1), (.bool a4.2.2.2.1), (.str a4.2.2.2.2.1), (.str a4.2.2.2.2.2)]), (112, .box [(.int .i64 a5.1), (.str a5.2.1), (.int .i64 a5.2.2.1), (.bool a5.2.2.2.1), (.str a5.2.2.2.2.1), (.str a5.2.2.2.2.2)])], salt := 90 }
noncomputable abbrev lex_Next_10 (a1 : List UInt8) (a2 : Int) (a3 : Int) (a4 : Bool) (a5 : Int × List UInt8 × Int × Bool × List UInt8 × List UInt8) (a6 : Int × List UInt8 × Int × Bool × List UInt8 × List UInt8) (a7 : List UInt8) (a8 : Int) (a9 : Int) : Option ((Int × List UInt8 × Int × Bool × List UInt8 × List UInt8) × Int × Int) := (top CT).stage 19 [{ f := 19, path := [0, 0, 1, 1, 1, 1, 1, 1, 1, 0, 1, 0, 1, 1, 1, 1, 1, 1, 0, 1], op := 2, rest := [3], env := [(0, (.str a7)), (1, (.int .i64 a8)), (4, (.ptr 64 0)), (7, (.ptr 112 0)), (9, (.int .i64 a9))], salt := 0 }] 35 [1, 0, 0, 0, 0, 1, 1] { env := [(0, (.str a1)), (1, (.int .i64 a2)), (2, (.func 41 [] [])), (7, (.int .i64 a3)), (22, (.bool a4))], heap := [(64, .box [(.int .i64 a5.1), (.str a5.2.1), (.int .i64 a5.2.2.1), (.bool a5.2.2.2.1), (.str a5.2.2.2.2.1), (.str a5.2.2.2.2.2)]), (112, .box [(.int .i64 a6.1), (.str a6.2.1), (.int .i64 a6.2.2.1), (.bool a6.2.2.2.1), (.str a6.2.2.2.2.1), (.str a6.2.2.2.2.2)])], salt := 90 }
noncomputable abbrev strings_Cut (x0 : List UInt8) (x1 : List UInt8) : Option (List UInt8 × List UInt8 × Bool) := (top CT).callF 20 (x0, x1)
noncomputable abbrev lex_digit (x0 : Int) : Option (Bool) := (top CT).callF 37 (x0)
noncomputable abbrev lex_number (x0 : List UInt8) (x1 : Int) : Option ((Int × List UInt8 × Int × Bool × List UInt8 × List UInt8) × Int × Int) := (top CT).callF 38 (x0, x1)
noncomputable abbrev lex_number_1 (a1 : List UInt8) (a2 : Int) (a3 : Int × List UInt8 × Int × Bool × List UInt8 × List UInt8) (a4 : List UInt8) (a5 : Int) : Option ((Int × List UInt8 × Int × Bool × List UInt8 × List UInt8) × Int × Int) := (top CT).stage 38 [{ f := 38, path := [0, 1], op := 2, rest := [3], env := [(0, (.str a4)), (1, (.int .i64 a5)), (4, (.ptr 64 0))], salt := 0 }] 35 [] { env := [(0, (.str a1)), (1, (.int .i64 a2)), (2, (.func 37 [] []))], heap := [(64, .box [(.int .i64 a3.1), (.str a3.2.1), (.int .i64 a3.2.2.1), (.bool a3.2.2.2.1), (.str a3.2.2.2.2.1), (.str a3.2.2.2.2.2)])], salt := 14 }
noncomputable abbrev lex_number_2 (a1 : List UInt8) (a2 : Int) (a3 : Int) (a4 : Int × List UInt8 × Int × Bool × List UInt8 × List UInt8) (a5 : List UInt8) (a6 : Int) : Option ((Int × List UInt8 × Int × Bool × List UInt8 × List UInt8) × Int × Int) := (top CT).stage 38 [{ f := 38, path := [0, 1], op := 2, rest := [3], env := [(0, (.str a5)), (1, (.int .i64 a6)), (4, (.ptr 64 0))], salt := 0 }] 35 [0, 0, 1, 1] { env := [(0, (.str a1)), (1, (.int .i64 a2)), (2, (.func 37 [] [])), (7, (.int .i64 a3))], heap := [(64, .box [(.int .i64 a4.1), (.str a4.2.1), (.int .i64 a4.2.2.1), (.bool a4.2.2.2.1), (.str a4.2.2.2.2.1), (.str a4.2.2.2.2.2)])], salt := 14 }
noncomputable abbrev lex_number_3 (a1 : List UInt8) (a2 : Int) (a3 : Int) (a4 : Bool) (a5 : Int × List UInt8 × Int × Bool × List UInt8 × List UInt8) (a6 : List UInt8) (a7 : Int) : Option ((Int × List UInt8 × Int × Bool × List UInt8 × List UInt8) × Int × Int) := (top CT).stage 38 [{ f := 38, path := [0, 1], op := 2, rest := [3], env := [(0, (.str a6)), (1, (.int .i64 a7)), (4, (.ptr 64 0))], salt := 0 }] 35 [1, 0, 0, 0, 0, 1, 1] { env := [(0, (.str a1)), (1, (.int .i64 a2)), (2, (.func 37 [] [])), (7, (.int .i64 a3)), (22, (.bool a4))], heap := [(64, .box [(.int .i64 a5.1), (.str a5.2.1), (.int .i64 a5.2.2.1), (.bool a5.2.2.2.1), (.str a5.2.2.2.2.1), (.str a5.2.2.2.2.2)])], salt := 14 }
noncomputable abbrev lex_number_4 (a1 : List UInt8) (a2 : Int) (a3 : Int × List UInt8 × Int × Bool × List UInt8 × List UInt8) (a4 : List UInt8) (a5 : Int) (a6 : Int) : Option ((Int × List UInt8 × Int × Bool × List UInt8 × List UInt8) × Int × Int) := (top CT).stage 38 [{ f := 38, path := [0, 0, 1, 1], op := 5, rest := [6], env := [(0, (.str a4)), (1, (.int .i64 a5)), (4, (.ptr 64 0)), (7, (.int .i64 a6))], salt := 0 }] 35 [] { env := [(0, (.str a1)), (1, (.int .i64 a2)), (2, (.func 37 [] []))], heap := [(64, .box [(.int .i64 a3.1), (.str a3.2.1), (.int .i64 a3.2.2.1), (.bool a3.2.2.2.1), (.str a3.2.2.2.2.1), (.str a3.2.2.2.2.2)])], salt := 20 }
noncomputable abbrev lex_number_5 (a1 : List UInt8) (a2 : Int) (a3 : Int) (a4 : Int × List UInt8 × Int × Bool × List UInt8 × List UInt8) (a5 : List UInt8) (a6 : Int) (a7 : Int) : Option ((Int × List UInt8 × Int × Bool × List UInt8 × List UInt8) × Int × Int) := (top CT).stage 38 [{ f := 38, path := [0, 0, 1, 1], op := 5, rest := [6], env := [(0, (.str a5)), (1, (.int .i64 a6)), (4, (.ptr 64 0)), (7, (.int .i64 a7))], salt := 0 }] 35 [0, 0, 1, 1] { env := [(0, (.str a1)), (1, (.int .i64 a2)), (2, (.func 37 [] [])), (7, (.int .i64 a3))], heap := [(64, .box [(.int .i64 a4.1), (.str a4.2.1), (.int .i64 a4.2.2.1), (.bool a4.2.2.2.1), (.str a4.2.2.2.2.1), (.str a4.2.2.2.2.2)])], salt := 20 }
noncomputable abbrev lex_number_6 (a1 : List UInt8) (a2 : Int) (a3 : Int) (a4 : Bool) (a5 : Int × List UInt8 × Int × Bool × List UInt8 × List UInt8) (a6 : List UInt8) (a7 : Int) (a8 : Int) : Option ((Int × List UInt8 × Int × Bool × List UInt8 × List UInt8) × Int × Int) := (top CT).stage 38 [{ f := 38, path := [0, 0, 1, 1], op := 5, rest := [6], env := [(0, (.str a6)), (1, (.int .i64 a7)), (4, (.ptr 64 0)), (7, (.int .i64 a8))], salt := 0 }] 35 [1, 0, 0, 0, 0, 1, 1] { env := [(0, (.str a1)), (1, (.int .i64 a2)), (2, (.func 37 [] [])), (7, (.int .i64 a3)), (22, (.bool a4))], heap := [(64, .box [(.int .i64 a5.1), (.str a5.2.1), (.int .i64 a5.2.2.1), (.bool a5.2.2.2.1), (.str a5.2.2.2.2.1), (.str a5.2.2.2.2.2)])], salt := 20 }
noncomputable abbrev lex_number_7 (a1 : List UInt8) (a2 : Int) (a3 : Int) (a4 : Int) (a5 : Bool) (a6 : Int × List UInt8 × Int × Bool × List UInt8 × List UInt8) : Option ((Int × List UInt8 × Int × Bool × List UInt8 × List UInt8) × Int × Int) := (top CT).stage 38 [] 38 [1, 1, 0, 1, 1] { env := [(0, (.str a1)), (1, (.int .i64 a2)), (4, (.ptr 64 0)), (7, (.int .i64 a3)), (8, (.int .i64 a4)), (29, (.bool a5))], heap := [(64, .box [(.int .i64 a6.1), (.str a6.2.1), (.int .i64 a6.2.2.1), (.bool a6.2.2.2.1), (.str a6.2.2.2.2.1), (.str a6.2.2.2.2.2)])], salt := 0 }
noncomputable abbrev lex_number_8 (a1 : List UInt8) (a2 : Int) (a3 : Int) (a4 : Int × List UInt8 × Int × Bool × List UInt8 × List UInt8) : Option ((Int × List UInt8 × Int × Bool × List UInt8 × List UInt8) × Int × Int) := (top CT).stage 38 [] 38 [1, 1, 1] { env := [(0, (.str a1)), (1, (.int .i64 a2)), (4, (.ptr 64 0)), (7, (.int .i64 a3))], heap := [(64, .box [(.int .i64 a4.1), (.str a4.2.1), (.int .i64 a4.2.2.1), (.bool a4.2.2.2.1), (.str a4.2.2.2.2.1), (.str a4.2.2.2.2.2)])], salt := 0 }
noncomputable abbrev lex_text (x0 : List UInt8) (x1 : Int) : Option ((Int × List UInt8 × Int × Bool × List UInt8 × List UInt8) × Int × Int) := (top CT).callF 39 (x0, x1)
noncomputable abbrev lex_fault (x0 : List UInt8) (x1 : Int) : Option ((Int × List UInt8 × Int × Bool × List UInt8 × List UInt8) × Int × Int) := (top CT).callF 40 (x0, x1)
noncomputable abbrev lex_fault_1 (a1 : List UInt8) (a2 : Int) (a3 : List UInt8) (a4 : Int) (a5 : Int × List UInt8 × Int × Bool × List UInt8 × List UInt8) : Option ((Int × List UInt8 × Int × Bool × List UInt8 × List UInt8) × Int × Int) := (top CT).stage 40 [] 40 [0, 1, 0, 1, 1] { env := [(0, (.str a1)), (1, (.int .i64 a2)), (4, (.ptr 64 0)), (7, (.str a3)), (8, (.int .i64 a4))], heap := [(64, .box [(.int .i64 a5.1), (.str a5.2.1), (.int .i64 a5.2.2.1), (.bool a5.2.2.2.1), (.str a5.2.2.2.2.1), (.str a5.2.2.2.2.2)])], salt := 0 }
noncomputable abbrev lex_fault_2 (a1 : List UInt8) (a2 : Int) (a3 : List UInt8) (a4 : Int) (a5 : List UInt8) (a6 : Bool) (a7 : Int × List UInt8 × Int × Bool × List UInt8 × List UInt8) : Option ((Int × List UInt8 × Int × Bool × List UInt8 × List UInt8) × Int × Int) := (top CT).stage 40 [] 40 [1, 1, 0, 0, 1, 0, 0, 1, 0, 1, 1] { env := [(0, (.str a1)), (1, (.int .i64 a2)), (4, (.ptr 64 0)), (7, (.str a3)), (8, (.int .i64 a4)), (9, (.str a5)), (27, (.bool a6))], heap := [(64, .box [(.int .i64 a7.1), (.str a7.2.1), (.int .i64 a7.2.2.1), (.bool a7.2.2.2.1), (.str a7.2.2.2.2.1), (.str a7.2.2.2.2.2)])], salt := 0 }
noncomputable abbrev lex_fault_3 (a1 : List UInt8) (a2 : Int) (a3 : List UInt8) (a4 : Int) (a5 : Int × List UInt8 × Int × Bool × List UInt8 × List UInt8) : Option ((Int × List UInt8 × Int × Bool × List UInt8 × List UInt8) × Int × Int) := (top CT).stage 40 [] 40 [1, 1, 0, 0, 1, 0, 1, 1] { env := [(0, (.str a1)), (1, (.int .i64 a2)), (4, (.ptr 64 0)), (7, (.str a3)), (8, (.int .i64 a4))], heap := [(64, .box [(.int .i64 a5.1), (.str a5.2.1), (.int .i64 a5.2.2.1), (.bool a5.2.2.2.1), (.str a5.2.2.2.2.1), (.str a5.2.2.2.2.2)])], salt := 0 }
noncomputable abbrev lex_letter (x0 : Int) : Option (Bool) := (top CT).callF 41 (x0)
noncomputable abbrev lex_sign (x0 : List UInt8) : Option (Int × Int) := (top CT).callF 42 (x0)
noncomputable abbrev lex_sign_1 (a1 : List UInt8) : Option (Int × Int) := (top CT).stage 42 [] 42 [1, 0, 0, 0, 1, 0, 1] { env := [(0, (.str a1))], heap := [], salt := 0 }
noncomputable abbrev lex_sign_2 (a1 : Bool) : Option (Int × Int) := (top CT).stage 42 [] 42 [1, 1, 1, 1, 1, 1, 1, 1, 0, 0, 0, 0, 0, 0, 0, 0, 0, 0, 0, 0, 0, 0, 0, 0, 0, 0, 1, 0, 1] { env := [(20, (.bool a1))], heap := [], salt := 0 }
noncomputable abbrev lex_sign_3 (a1 : Bool) : Option (Int × Int) := (top CT).stage 42 [] 42 [1, 1, 0, 0, 0, 1, 0, 1] { env := [(38, (.bool a1))], heap := [], salt := 0 }
noncomputable abbrev numtext_Decimal (x0 : List UInt8) : Option ((Bool × List UInt8 × List UInt8) × Int) := (top CT).callF 62 (x0)
noncomputable abbrev numtext_Decimal_1 (a1 : List UInt8) (a2 : List UInt8) (a3 : List UInt8) (a4 : Bool) (a5 : Bool × List UInt8 × List UInt8) : Option ((Bool × List UInt8 × List UInt8) × Int) := (top CT).stage 62 [] 62 [1, 0, 0, 1, 1] { env := [(0, (.str a1)), (2, (.ptr 32 0)), (4, (.str a2)), (5, (.str a3)), (15, (.bool a4))], heap := [(32, .box [(.bool a5.1), (.str a5.2.1), (.str a5.2.2)])], salt := 0 }
noncomputable abbrev strings_HasPrefix (x0 : List UInt8) (x1 : List UInt8) : Option (Bool) := (top CT).callF 63 (x0, x1)
noncomputable abbrev value_Name (x0 : Int) : Option (List UInt8) := (top CT).callF 66 (x0)
noncomputable abbrev value_Name_1 (a1 : Int) : Option (List UInt8) := (top CT).stage 66 [{ f := 66, path := [0, 1], op := 0, rest := [1, 2], env := [(0, (.int .i64 a1))], salt := 0 }] 80 [] { env := [], heap := [], salt := 5 }
noncomputable abbrev value_Name_2 (a1 : Int) (a2 : Bool) (a3 : List UInt8) (a4 : List UInt8) (a5 : List UInt8) (a6 : List UInt8) (a7 : List UInt8) (a8 : List UInt8) (a9 : List UInt8) (a10 : List UInt8) : Option (List UInt8) := (top CT).stage 66 [] 66 [1, 0, 1, 1] { env := [(0, (.int .i64 a1)), (3, (.ptr 48 0)), (10, (.bool a2))], heap := [(48, .box [(.str a3), (.str a4), (.str a5), (.str a6), (.str a7), (.str a8), (.str a9), (.str a10)])], salt := 0 }
noncomputable abbrev internal_stringslite_HasPrefix (x0 : List UInt8) (x1 : List UInt8) : Option (Bool) := (top CT).callF 68 (x0, x1)
noncomputable abbrev numtext_digits (x0 : List UInt8) : Option (Bool) := (top CT).callF 73 (x0)
noncomputable abbrev numtext_digits_1 (a1 : List UInt8) (a2 : List Int) (a3 : Int) (a4 : Int) : Option (Bool) := (top CT).stage 73 [] 73 [0, 1, 0, 1] { env := [(0, (.str a1)), (6, (.sl (.int .u8) a2 false)), (7, (.int .i64 a3)), (8, (.int .i64 a4))], heap := [], salt := 0 }
noncomputable abbrev numtext_digits_2 (a1 : List UInt8) (a2 : List Int) (a3 : Int) (a4 : Int) (a5 : Bool) : Option (Bool) := (top CT).stage 73 [] 73 [1, 1, 0, 0, 1, 1, 0, 0, 1, 0, 1] { env := [(0, (.str a1)), (6, (.sl (.int .u8) a2 false)), (7, (.int .i64 a3)), (8, (.int .i64 a4)), (17, (.bool a5))], heap := [], salt := 0 }
noncomputable abbrev dec_Parse (x0 : List UInt8) : Option (List UInt8 × Int) := (top CT).callF 74 (x0)
noncomputable abbrev dec_Parse_1 (a1 : List UInt8) (a2 : Bool) : Option (List UInt8 × Int) := (top CT).stage 74 [] 74 [1, 0, 0, 1] { env := [(0, (.str a1)), (10, (.bool a2))], heap := [], salt := 0 }
noncomputable abbrev dec_Parse_2 (a1 : List UInt8) (a2 : List UInt8) : Option (List UInt8 × Int) := (top CT).stage 74 [] 74 [0, 0, 1, 1, 1] { env := [(0, (.str a1)), (4, (.str a2))], heap := [], salt := 0 }
noncomputable abbrev dec_Parse_3 (a1 : List UInt8) (a2 : List UInt8) (a3 : Int) (a4 : Int) (a5 : Int) (a6 : List Int) (a7 : Int) (a8 : Int) : Option (List UInt8 × Int) := (top CT).stage 74 [] 74 [0, 1, 0, 1, 1, 0, 1, 0, 0, 0, 1, 1, 1] { env := [(0, (.str a1)), (4, (.str a2)), (5, (.int .i64 a3)), (6, (.int .u64 a4)), (7, (.int .u64 a5)), (30, (.sl (.int .u8) a6 false)), (31, (.int .i64 a7)), (32, (.int .i64 a8))], heap := [], salt := 0 }
noncomputable abbrev rat_Make (x0 : Bool × List UInt8) (x1 : Bool × List UInt8) : Option ((Bool × List UInt8 × List UInt8) × Int) := (top CT).callF 75 (x0, x1)
noncomputable abbrev rat_Make_1 (a1 : List UInt8) (a2 : List UInt8) (a3 : Bool × List UInt8) (a4 : Bool × List UInt8) (a5 : Bool × List UInt8 × List UInt8) : Option ((Bool × List UInt8 × List UInt8) × Int) := (top CT).stage 75 [] 75 [1, 1, 1, 1] { env := [(2, (.ptr 32 0)), (3, (.ptr 48 0)), (4, (.ptr 64 0)), (6, (.str a1)), (7, (.str a2))], heap := [(32, .box [(.bool a3.1), (.str a3.2)]), (48, .box [(.bool a4.1), (.str a4.2)]), (64, .box [(.bool a5.1), (.str a5.2.1), (.str a5.2.2)])], salt := 0 }
noncomputable abbrev rat_Make_2 (a1 : List UInt8) (a2 : List UInt8) (a3 : Bool) (a4 : Bool × List UInt8) (a5 : Bool × List UInt8) (a6 : Bool × List UInt8 × List UInt8) : Option ((Bool × List UInt8 × List UInt8) × Int) := (top CT).stage 75 [] 75 [1, 0, 1, 1, 1, 1] { env := [(2, (.ptr 32 0)), (3, (.ptr 48 0)), (4, (.ptr 64 0)), (6, (.str a1)), (7, (.str a2)), (44, (.bool a3))], heap := [(32, .box [(.bool a4.1), (.str a4.2)]), (48, .box [(.bool a5.1), (.str a5.2)]), (64, .box [(.bool a6.1), (.str a6.2.1), (.str a6.2.2)])], salt := 0 }
noncomputable abbrev whole_Make (x0 : Bool) (x1 : List UInt8) : Option (Bool × List UInt8) := (top CT).callF 76 (x0, x1)
noncomputable abbrev numtext_power (x0 : Int) (x1 : Int) : Option (List UInt8) := (top CT).callF 77 (x0, x1)
noncomputable abbrev dec_odd (x0 : List UInt8) : Option (Bool) := (top CT).callF 88 (x0)
noncomputable abbrev dec_odd_1 (a1 : List Int) (a2 : Int) (a3 : Int) : Option (Bool) := (top CT).stage 88 [] 88 [0, 1, 0, 1] { env := [(6, (.sl (.int .u8) a1 false)), (7, (.int .i64 a2)), (8, (.int .i64 a3))], heap := [], salt := 0 }
noncomputable abbrev dec_odd_2 (a1 : List Int) (a2 : Int) (a3 : Int) (a4 : Bool) : Option (Bool) := (top CT).stage 88 [] 88 [1, 1, 0, 0, 1, 1, 0, 0, 1, 0, 1] { env := [(6, (.sl (.int .u8) a1 false)), (7, (.int .i64 a2)), (8, (.int .i64 a3)), (17, (.bool a4))], heap := [], salt := 0 }
noncomputable abbrev nat_Add (x0 : List UInt8) (x1 : List UInt8) : Option (List UInt8) := (top CT).callF 89 (x0, x1)
noncomputable abbrev nat_Mul (x0 : List UInt8) (x1 : List UInt8) : Option (List UInt8) := (top CT).callF 90 (x0, x1)
noncomputable abbrev nat_Of (x0 : Int) : Option (List UInt8) := (top CT).callF 91 (x0)
noncomputable abbrev nat_Trim (x0 : List UInt8) : Option (List UInt8) := (top CT).callF 92 (x0)
noncomputable abbrev divide_Gcd (x0 : List UInt8) (x1 : List UInt8) : Option (List UInt8) := (top CT).callF 93 (x0, x1)
noncomputable abbrev divide_DivMod (x0 : List UInt8) (x1 : List UInt8) : Option (List UInt8 × List UInt8 × Int) := (top CT).callF 94 (x0, x1)
noncomputable abbrev divide_Pow (x0 : List UInt8) (x1 : Int) : Option (List UInt8 × Int) := (top CT).callF 95 (x0, x1)
end Go.Proofs.YtenebjaipfcflaaDoor.K

/- The tables are the program's own. -/
set_option linter.unusedVariables false
set_option maxRecDepth 100000
namespace Go.Proofs.YtenebjaipfcflaaDoor.K
open Go
theorem look_all {α : Type} {Q : Nat → α → Prop} : ∀ {l : List (Nat × α)}, (∀ p ∈ l, Q p.1 p.2) → ∀ t v, look l t = some v → Q t v
  | [], _, t, v, h => by cases h
  | (u, x) :: l, hl, t, v, h => by
    simp only [look] at h
    split at h
    · rename_i hb
      have := Nat.eq_of_beq_eq_true hb
      subst this
      cases h
      exact hl _ (List.mem_cons_self ..)
    · exact look_all (fun p hp => hl p (List.mem_cons_of_mem _ hp)) t v h
theorem all_nil {α : Type} {Q : Nat → α → Prop} : ∀ p ∈ ([] : List (Nat × α)), Q p.1 p.2 := fun p h => by cases h
theorem all_cons {α : Type} {Q : Nat → α → Prop} {u : Nat} {x : α} {l : List (Nat × α)} (h : Q u x) (hl : ∀ p ∈ l, Q p.1 p.2) : ∀ p ∈ (u, x) :: l, Q p.1 p.2 := fun p hp => by
  rcases List.mem_cons.1 hp with rfl | hp
  · exact h
  · exact hl p hp
theorem tiok3 : TIok Tryd.prog 3 ti3 := ⟨by kernel_rfl, by kernel_rfl, by kernel_rfl, by kernel_rfl, by kernel_rfl, by kernel_rfl, by kernel_rfl, by kernel_rfl, ⟨by kernel_rfl, by kernel_rfl, by kernel_rfl⟩, fun h => by cases h⟩
theorem tiok4 : TIok Tryd.prog 4 ti4 := ⟨by kernel_rfl, by kernel_rfl, by kernel_rfl, by kernel_rfl, by kernel_rfl, by kernel_rfl, by kernel_rfl, by kernel_rfl, ⟨by kernel_rfl, by kernel_rfl, by kernel_rfl⟩, fun h => by cases h⟩
theorem tiok5 : TIok Tryd.prog 5 ti5 := ⟨by kernel_rfl, by kernel_rfl, by kernel_rfl, by kernel_rfl, by kernel_rfl, by kernel_rfl, by kernel_rfl, by kernel_rfl, ⟨by kernel_rfl, by kernel_rfl, by kernel_rfl⟩, fun h => by cases h⟩
theorem tiok9 : TIok Tryd.prog 9 ti9 := ⟨by kernel_rfl, by kernel_rfl, by kernel_rfl, by kernel_rfl, by kernel_rfl, by kernel_rfl, by kernel_rfl, by kernel_rfl, ⟨by kernel_rfl, by kernel_rfl, by kernel_rfl⟩, fun h => by cases h⟩
theorem tiok28 : TIok Tryd.prog 28 ti28 := ⟨by kernel_rfl, by kernel_rfl, by kernel_rfl, by kernel_rfl, by kernel_rfl, by kernel_rfl, by kernel_rfl, by kernel_rfl, ⟨by kernel_rfl, by kernel_rfl, by kernel_rfl⟩, fun h => by cases h⟩
theorem tiok33 : TIok Tryd.prog 33 ti33 := ⟨by kernel_rfl, by kernel_rfl, by kernel_rfl, by kernel_rfl, by kernel_rfl, by kernel_rfl, by kernel_rfl, by kernel_rfl, ⟨by kernel_rfl, by kernel_rfl, by kernel_rfl⟩, fun _ => eq_fits (by kernel_rfl) (by kernel_rfl)⟩
theorem tiok35 : TIok Tryd.prog 35 ti35 := ⟨by kernel_rfl, by kernel_rfl, by kernel_rfl, by kernel_rfl, by kernel_rfl, by kernel_rfl, by kernel_rfl, by kernel_rfl, ⟨by kernel_rfl, by kernel_rfl, by kernel_rfl⟩, fun h => by cases h⟩
theorem tiok66 : TIok Tryd.prog 66 ti66 := ⟨by kernel_rfl, by kernel_rfl, by kernel_rfl, by kernel_rfl, by kernel_rfl, by kernel_rfl, by kernel_rfl, by kernel_rfl, ⟨by kernel_rfl, by kernel_rfl, by kernel_rfl⟩, fun h => by cases h⟩
theorem tiok100 : TIok Tryd.prog 100 ti100 := ⟨by kernel_rfl, by kernel_rfl, by kernel_rfl, by kernel_rfl, by kernel_rfl, by kernel_rfl, by kernel_rfl, by kernel_rfl, ⟨by kernel_rfl, by kernel_rfl, by kernel_rfl⟩, fun h => by cases h⟩
theorem tiok103 : TIok Tryd.prog 103 ti103 := ⟨by kernel_rfl, by kernel_rfl, by kernel_rfl, by kernel_rfl, by kernel_rfl, by kernel_rfl, by kernel_rfl, by kernel_rfl, ⟨by kernel_rfl, by kernel_rfl, by kernel_rfl⟩, fun h => by cases h⟩
theorem tiok105 : TIok Tryd.prog 105 ti105 := ⟨by kernel_rfl, by kernel_rfl, by kernel_rfl, by kernel_rfl, by kernel_rfl, by kernel_rfl, by kernel_rfl, by kernel_rfl, trivial, fun h => by cases h⟩
theorem tis_ok : CtxTI Tryd.prog CT := look_all (l := tis) (all_cons tiok3 (all_cons tiok4 (all_cons tiok5 (all_cons tiok9 (all_cons tiok28 (all_cons tiok33 (all_cons tiok35 (all_cons tiok66 (all_cons tiok100 (all_cons tiok103 (all_cons tiok105 all_nil)))))))))))
def FnOk (f : Nat) (fn : Func) : Prop := Tryd.prog.funcs[f]? = some fn ∧ fn.body.isSome = true ∧ (fn.name == "runtime.NumGoroutine") = false
def ParOk (i : Nat) (fn : Func) : Prop := ((look ptsL i).getD []).length ≤ fn.ntmps
theorem fnok35 : FnOk 35 Tryd.f35 := ⟨Tryd.func35, by kernel_rfl, by kernel_rfl⟩
theorem parok35 : ParOk 35 Tryd.f35 := Nat.le_of_ble_eq_true (by kernel_rfl)
theorem fnok36 : FnOk 36 Tryd.f36 := ⟨Tryd.func36, by kernel_rfl, by kernel_rfl⟩
theorem parok36 : ParOk 36 Tryd.f36 := Nat.le_of_ble_eq_true (by kernel_rfl)
theorem fnok80 : FnOk 80 Tryd.f80 := ⟨Tryd.func80, by kernel_rfl, by kernel_rfl⟩
theorem parok80 : ParOk 80 Tryd.f80 := Nat.le_of_ble_eq_true (by kernel_rfl)
theorem fnok4 : FnOk 4 Tryd.f4 := ⟨Tryd.func4, by kernel_rfl, by kernel_rfl⟩
theorem parok4 : ParOk 4 Tryd.f4 := Nat.le_of_ble_eq_true (by kernel_rfl)
theorem fnok8 : FnOk 8 Tryd.f8 := ⟨Tryd.func8, by kernel_rfl, by kernel_rfl⟩
theorem parok8 : ParOk 8 Tryd.f8 := Nat.le_of_ble_eq_true (by kernel_rfl)
theorem fnok9 : FnOk 9 Tryd.f9 := ⟨Tryd.func9, by kernel_rfl, by kernel_rfl⟩
theorem parok9 : ParOk 9 Tryd.f9 := Nat.le_of_ble_eq_true (by kernel_rfl)
theorem fnok10 : FnOk 10 Tryd.f10 := ⟨Tryd.func10, by kernel_rfl, by kernel_rfl⟩
theorem parok10 : ParOk 10 Tryd.f10 := Nat.le_of_ble_eq_true (by kernel_rfl)
theorem fnok19 : FnOk 19 Tryd.f19 := ⟨Tryd.func19, by kernel_rfl, by kernel_rfl⟩
theorem parok19 : ParOk 19 Tryd.f19 := Nat.le_of_ble_eq_true (by kernel_rfl)
theorem fnok20 : FnOk 20 Tryd.f20 := ⟨Tryd.func20, by kernel_rfl, by kernel_rfl⟩
theorem parok20 : ParOk 20 Tryd.f20 := Nat.le_of_ble_eq_true (by kernel_rfl)
theorem fnok37 : FnOk 37 Tryd.f37 := ⟨Tryd.func37, by kernel_rfl, by kernel_rfl⟩
theorem parok37 : ParOk 37 Tryd.f37 := Nat.le_of_ble_eq_true (by kernel_rfl)
theorem fnok38 : FnOk 38 Tryd.f38 := ⟨Tryd.func38, by kernel_rfl, by kernel_rfl⟩
theorem parok38 : ParOk 38 Tryd.f38 := Nat.le_of_ble_eq_true (by kernel_rfl)
theorem fnok39 : FnOk 39 Tryd.f39 := ⟨Tryd.func39, by kernel_rfl, by kernel_rfl⟩
theorem parok39 : ParOk 39 Tryd.f39 := Nat.le_of_ble_eq_true (by kernel_rfl)
theorem fnok40 : FnOk 40 Tryd.f40 := ⟨Tryd.func40, by kernel_rfl, by kernel_rfl⟩
theorem parok40 : ParOk 40 Tryd.f40 := Nat.le_of_ble_eq_true (by kernel_rfl)
theorem fnok41 : FnOk 41 Tryd.f41 := ⟨Tryd.func41, by kernel_rfl, by kernel_rfl⟩
theorem parok41 : ParOk 41 Tryd.f41 := Nat.le_of_ble_eq_true (by kernel_rfl)
theorem fnok42 : FnOk 42 Tryd.f42 := ⟨Tryd.func42, by kernel_rfl, by kernel_rfl⟩
theorem parok42 : ParOk 42 Tryd.f42 := Nat.le_of_ble_eq_true (by kernel_rfl)
theorem fnok62 : FnOk 62 Tryd.f62 := ⟨Tryd.func62, by kernel_rfl, by kernel_rfl⟩
theorem parok62 : ParOk 62 Tryd.f62 := Nat.le_of_ble_eq_true (by kernel_rfl)
theorem fnok63 : FnOk 63 Tryd.f63 := ⟨Tryd.func63, by kernel_rfl, by kernel_rfl⟩
theorem parok63 : ParOk 63 Tryd.f63 := Nat.le_of_ble_eq_true (by kernel_rfl)
theorem fnok66 : FnOk 66 Tryd.f66 := ⟨Tryd.func66, by kernel_rfl, by kernel_rfl⟩
theorem parok66 : ParOk 66 Tryd.f66 := Nat.le_of_ble_eq_true (by kernel_rfl)
theorem fnok68 : FnOk 68 Tryd.f68 := ⟨Tryd.func68, by kernel_rfl, by kernel_rfl⟩
theorem parok68 : ParOk 68 Tryd.f68 := Nat.le_of_ble_eq_true (by kernel_rfl)
theorem fnok73 : FnOk 73 Tryd.f73 := ⟨Tryd.func73, by kernel_rfl, by kernel_rfl⟩
theorem parok73 : ParOk 73 Tryd.f73 := Nat.le_of_ble_eq_true (by kernel_rfl)
theorem fnok74 : FnOk 74 Tryd.f74 := ⟨Tryd.func74, by kernel_rfl, by kernel_rfl⟩
theorem parok74 : ParOk 74 Tryd.f74 := Nat.le_of_ble_eq_true (by kernel_rfl)
theorem fnok75 : FnOk 75 Tryd.f75 := ⟨Tryd.func75, by kernel_rfl, by kernel_rfl⟩
theorem parok75 : ParOk 75 Tryd.f75 := Nat.le_of_ble_eq_true (by kernel_rfl)
theorem fnok76 : FnOk 76 Tryd.f76 := ⟨Tryd.func76, by kernel_rfl, by kernel_rfl⟩
theorem parok76 : ParOk 76 Tryd.f76 := Nat.le_of_ble_eq_true (by kernel_rfl)
theorem fnok77 : FnOk 77 Tryd.f77 := ⟨Tryd.func77, by kernel_rfl, by kernel_rfl⟩
theorem parok77 : ParOk 77 Tryd.f77 := Nat.le_of_ble_eq_true (by kernel_rfl)
theorem fnok88 : FnOk 88 Tryd.f88 := ⟨Tryd.func88, by kernel_rfl, by kernel_rfl⟩
theorem parok88 : ParOk 88 Tryd.f88 := Nat.le_of_ble_eq_true (by kernel_rfl)
theorem fnok89 : FnOk 89 Tryd.f89 := ⟨Tryd.func89, by kernel_rfl, by kernel_rfl⟩
theorem parok89 : ParOk 89 Tryd.f89 := Nat.le_of_ble_eq_true (by kernel_rfl)
theorem fnok90 : FnOk 90 Tryd.f90 := ⟨Tryd.func90, by kernel_rfl, by kernel_rfl⟩
theorem parok90 : ParOk 90 Tryd.f90 := Nat.le_of_ble_eq_true (by kernel_rfl)
theorem fnok91 : FnOk 91 Tryd.f91 := ⟨Tryd.func91, by kernel_rfl, by kernel_rfl⟩
theorem parok91 : ParOk 91 Tryd.f91 := Nat.le_of_ble_eq_true (by kernel_rfl)
theorem fnok92 : FnOk 92 Tryd.f92 := ⟨Tryd.func92, by kernel_rfl, by kernel_rfl⟩
theorem parok92 : ParOk 92 Tryd.f92 := Nat.le_of_ble_eq_true (by kernel_rfl)
theorem fnok93 : FnOk 93 Tryd.f93 := ⟨Tryd.func93, by kernel_rfl, by kernel_rfl⟩
theorem parok93 : ParOk 93 Tryd.f93 := Nat.le_of_ble_eq_true (by kernel_rfl)
theorem fnok94 : FnOk 94 Tryd.f94 := ⟨Tryd.func94, by kernel_rfl, by kernel_rfl⟩
theorem parok94 : ParOk 94 Tryd.f94 := Nat.le_of_ble_eq_true (by kernel_rfl)
theorem fnok95 : FnOk 95 Tryd.f95 := ⟨Tryd.func95, by kernel_rfl, by kernel_rfl⟩
theorem parok95 : ParOk 95 Tryd.f95 := Nat.le_of_ble_eq_true (by kernel_rfl)
theorem fns_ok : ∀ f fn, look fns f = some fn → FnOk f fn := look_all (Q := FnOk) (l := fns) (all_cons fnok4 (all_cons fnok8 (all_cons fnok9 (all_cons fnok10 (all_cons fnok19 (all_cons fnok20 (all_cons fnok37 (all_cons fnok38 (all_cons fnok39 (all_cons fnok40 (all_cons fnok41 (all_cons fnok42 (all_cons fnok62 (all_cons fnok63 (all_cons fnok66 (all_cons fnok68 (all_cons fnok73 (all_cons fnok74 (all_cons fnok75 (all_cons fnok76 (all_cons fnok77 (all_cons fnok88 (all_cons fnok89 (all_cons fnok90 (all_cons fnok91 (all_cons fnok92 (all_cons fnok93 (all_cons fnok94 (all_cons fnok95 (all_cons fnok35 (all_cons fnok36 (all_cons fnok80 all_nil))))))))))))))))))))))))))))))))
theorem ctx_ok : CtxOk Tryd.prog CT := ⟨tis_ok, fns_ok, by kernel_rfl, inv_keeps⟩
theorem pars_ok : ∀ i fn, look fns i = some fn → ParOk i fn := look_all (Q := ParOk) (l := fns) (all_cons parok4 (all_cons parok8 (all_cons parok9 (all_cons parok10 (all_cons parok19 (all_cons parok20 (all_cons parok37 (all_cons parok38 (all_cons parok39 (all_cons parok40 (all_cons parok41 (all_cons parok42 (all_cons parok62 (all_cons parok63 (all_cons parok66 (all_cons parok68 (all_cons parok73 (all_cons parok74 (all_cons parok75 (all_cons parok76 (all_cons parok77 (all_cons parok88 (all_cons parok89 (all_cons parok90 (all_cons parok91 (all_cons parok92 (all_cons parok93 (all_cons parok94 (all_cons parok95 (all_cons parok35 (all_cons parok36 (all_cons parok80 all_nil))))))))))))))))))))))))))))))))
theorem sound (hE : ExtOk Tryd.prog CT) : ∀ k, SpecOk Tryd.prog (sem CT k) ∧ StageOk Tryd.prog (sem CT k) := sem_sound ctx_ok hE pars_ok
theorem ext_ok : ExtOk Tryd.prog CT := ext_of (l := extL) rfl (allE_cons (ext_at (cut_ok inv_max)) (allE_cons (ext_at (Q.lex_ok inv_keeps inv_max)) (allE_cons (ext_at (Q.add_ok inv_max)) (allE_cons (ext_at (Q.mul_ok inv_max)) (allE_cons (ext_at (Q.of_ok inv_max)) (allE_cons (ext_at (Q.trim_ok inv_max)) (allE_cons (ext_at (Q.gcd_ok inv_max)) (allE_cons (ext_at (Q.div_ok inv_max)) (allE_cons (ext_at (Q.pow_ok inv_max)) allE_nil)))))))))
theorem spec_ok (k : Nat) : SpecOk Tryd.prog (sem CT k) := (sound ext_ok k).1
end Go.Proofs.YtenebjaipfcflaaDoor.K

/- The machine at this seat: its equations. -/
set_option linter.unusedVariables false
set_option maxRecDepth 100000
namespace Go.Proofs.YtenebjaipfcflaaDoor.K
open Go
theorem abacistlaw12_LexAgain_eq (x0 : List UInt8) : abacistlaw12_LexAgain x0 = (lex_All x0).bind fun v1 => cond (!decide (v1.2.2 = 0)) ((abacistlaw12_known).bind fun v2 => some v2) (abacistlaw12_LexAgain_1 x0 v1.1 ([] : List UInt8) 0 0) := (top_call ..).trans (by kernel_rfl)
theorem abacistlaw12_LexAgain_1_eq (a1 : List UInt8) (a2 : List (Int × List UInt8 × Int × Bool × List UInt8 × List UInt8)) (a3 : List UInt8) (a4 : Int) (a5 : Int) : abacistlaw12_LexAgain_1 a1 a2 a3 a4 a5 = cond (decide (a5 < (a2.length : Int))) (cond (decide (0 ≤ a5) && decide (a5 < (a2.length : Int))) (cond (decide (0 ≤ a5) && decide (a5 < (a2.length : Int))) (cond (decide (((a2.getD a5.toNat (0, [], 0, false, [], [])).1) = 2)) ((abacistlaw12_quoted (((a2.getD a5.toNat (0, [], 0, false, [], [])).2).1)).bind fun v1 => abacistlaw12_LexAgain_2 a1 a2 a3 a4 a5 v1) (abacistlaw12_LexAgain_2 a1 a2 a3 a4 a5 (((a2.getD a5.toNat (0, [], 0, false, [], [])).2).1))) none) none) (cond (decide ((a3.length : Int) > 300)) ((abacistlaw12_known).bind fun v2 => some v2) ((lex_All a3).bind fun v3 => cond (!decide (v3.2.2 = 0)) (abacistlaw12_LexAgain_3 a2 v3.1 true) (cond (!decide ((v3.1.length : Int) = (a2.length : Int))) (abacistlaw12_LexAgain_3 a2 v3.1 true) (abacistlaw12_LexAgain_3 a2 v3.1 (!decide (a4 = (a1.length : Int))))))) := (top_stage ..).trans (by kernel_rfl)
theorem abacistlaw12_LexAgain_2_eq (a1 : List UInt8) (a2 : List (Int × List UInt8 × Int × Bool × List UInt8 × List UInt8)) (a3 : List UInt8) (a4 : Int) (a5 : Int) (a6 : List UInt8) : abacistlaw12_LexAgain_2 a1 a2 a3 a4 a5 a6 = abacistlaw12_LexAgain_4 a1 a2 a3 a4 a5 a6 := (top_stage ..).trans (by kernel_rfl)
theorem abacistlaw12_LexAgain_3_eq (a1 : List (Int × List UInt8 × Int × Bool × List UInt8 × List UInt8)) (a2 : List (Int × List UInt8 × Int × Bool × List UInt8 × List UInt8)) (a3 : Bool) : abacistlaw12_LexAgain_3 a1 a2 a3 = cond a3 (some false) (abacistlaw12_LexAgain_5 a1 a2 0) := (top_stage ..).trans (by kernel_rfl)
theorem abacistlaw12_LexAgain_4_eq (a1 : List UInt8) (a2 : List (Int × List UInt8 × Int × Bool × List UInt8 × List UInt8)) (a3 : List UInt8) (a4 : Int) (a5 : Int) (a6 : List UInt8) : abacistlaw12_LexAgain_4 a1 a2 a3 a4 a5 a6 = cond (decide (a4 < (a1.length : Int))) (cond (decide (0 ≤ a4) && decide (a4 < (a1.length : Int))) (abacistlaw12_LexAgain_6 a1 a2 a3 a4 a5 a6 (decide (((a1.getD a4.toNat 0).toNat : Int) = 32))) none) (abacistlaw12_LexAgain_6 a1 a2 a3 a4 a5 a6 false) := (top_stage ..).trans (by kernel_rfl)
theorem abacistlaw12_LexAgain_5_eq (a1 : List (Int × List UInt8 × Int × Bool × List UInt8 × List UInt8)) (a2 : List (Int × List UInt8 × Int × Bool × List UInt8 × List UInt8)) (a3 : Int) : abacistlaw12_LexAgain_5 a1 a2 a3 = cond (decide (a3 < (a1.length : Int))) (cond (decide (0 ≤ a3) && decide (a3 < (a2.length : Int))) (cond (decide (0 ≤ a3) && decide (a3 < (a1.length : Int))) (cond (!decide (((a2.getD a3.toNat (0, [], 0, false, [], [])).1) = ((a1.getD a3.toNat (0, [], 0, false, [], [])).1))) (abacistlaw12_LexAgain_7 a1 a2 a3 true) (cond (decide (0 ≤ a3) && decide (a3 < (a2.length : Int))) (cond (decide (0 ≤ a3) && decide (a3 < (a1.length : Int))) (cond (!decide ((((a2.getD a3.toNat (0, [], 0, false, [], [])).2).1) = (((a1.getD a3.toNat (0, [], 0, false, [], [])).2).1))) (abacistlaw12_LexAgain_7 a1 a2 a3 true) (cond (decide (0 ≤ a3) && decide (a3 < (a2.length : Int))) (cond (decide (0 ≤ a3) && decide (a3 < (a1.length : Int))) (abacistlaw12_LexAgain_7 a1 a2 a3 (!(((((((a2.getD a3.toNat (0, [], 0, false, [], [])).2).2).2).1) == (((((a1.getD a3.toNat (0, [], 0, false, [], [])).2).2).2).1)) && ((decide (((((((a2.getD a3.toNat (0, [], 0, false, [], [])).2).2).2).2).1) = ((((((a1.getD a3.toNat (0, [], 0, false, [], [])).2).2).2).2).1))) && (decide (((((((a2.getD a3.toNat (0, [], 0, false, [], [])).2).2).2).2).2) = ((((((a1.getD a3.toNat (0, [], 0, false, [], [])).2).2).2).2).2))))))) none) none)) none) none)) none) none) ((abacistlaw12_known).bind fun v1 => some v1) := (top_stage ..).trans (by kernel_rfl)
theorem abacistlaw12_LexAgain_6_eq (a1 : List UInt8) (a2 : List (Int × List UInt8 × Int × Bool × List UInt8 × List UInt8)) (a3 : List UInt8) (a4 : Int) (a5 : Int) (a6 : List UInt8) (a7 : Bool) : abacistlaw12_LexAgain_6 a1 a2 a3 a4 a5 a6 a7 = cond a7 (abacistlaw12_LexAgain_4 a1 a2 a3 (IntKind.i64.wrap (a4 + 1)) a5 a6) (cond (decide (0 ≤ a5) && decide (a5 < (a2.length : Int))) (cond (!decide (((((a2.getD a5.toNat (0, [], 0, false, [], [])).2).2).1) = a4)) (abacistlaw12_LexAgain_8 a1 a2 a3 a4 a5 a6 true) (cond (decide ((IntKind.i64.wrap (a4 + (a6.length : Int))) > (a1.length : Int))) (abacistlaw12_LexAgain_8 a1 a2 a3 a4 a5 a6 true) (cond (decide (0 ≤ a4) && (decide (a4 ≤ (IntKind.i64.wrap (a4 + (a6.length : Int)))) && decide ((IntKind.i64.wrap (a4 + (a6.length : Int))) ≤ (a1.length : Int)))) (abacistlaw12_LexAgain_8 a1 a2 a3 a4 a5 a6 (!decide (((a1.take ((IntKind.i64.wrap (a4 + (a6.length : Int))).toNat)).drop a4.toNat) = a6))) none))) none) := (top_stage ..).trans (by kernel_rfl)
theorem abacistlaw12_LexAgain_7_eq (a1 : List (Int × List UInt8 × Int × Bool × List UInt8 × List UInt8)) (a2 : List (Int × List UInt8 × Int × Bool × List UInt8 × List UInt8)) (a3 : Int) (a4 : Bool) : abacistlaw12_LexAgain_7 a1 a2 a3 a4 = cond a4 (some false) (abacistlaw12_LexAgain_5 a1 a2 (IntKind.i64.wrap (a3 + 1))) := (top_stage ..).trans (by kernel_rfl)
theorem abacistlaw12_LexAgain_8_eq (a1 : List UInt8) (a2 : List (Int × List UInt8 × Int × Bool × List UInt8 × List UInt8)) (a3 : List UInt8) (a4 : Int) (a5 : Int) (a6 : List UInt8) (a7 : Bool) : abacistlaw12_LexAgain_8 a1 a2 a3 a4 a5 a6 a7 = cond a7 (some false) (cond (decide (a5 > 0)) (cond (Nat.ble (a3.length + ([32] : List UInt8).length) 9223372036854775807) (abacistlaw12_LexAgain_9 a1 a2 (a3 ++ ([32] : List UInt8)) (IntKind.i64.wrap (a4 + (a6.length : Int))) a5 a6) none) (abacistlaw12_LexAgain_9 a1 a2 a3 (IntKind.i64.wrap (a4 + (a6.length : Int))) a5 a6)) := (top_stage ..).trans (by kernel_rfl)
theorem abacistlaw12_LexAgain_9_eq (a1 : List UInt8) (a2 : List (Int × List UInt8 × Int × Bool × List UInt8 × List UInt8)) (a3 : List UInt8) (a4 : Int) (a5 : Int) (a6 : List UInt8) : abacistlaw12_LexAgain_9 a1 a2 a3 a4 a5 a6 = cond (Nat.ble (a3.length + a6.length) 9223372036854775807) (abacistlaw12_LexAgain_1 a1 a2 (a3 ++ a6) a4 (IntKind.i64.wrap (a5 + 1))) none := (top_stage ..).trans (by kernel_rfl)
theorem lex_All_eq (x0 : List UInt8) : lex_All x0 = cond (decide ((x0.length : Int) > 300)) (some ([], 0, 9)) (lex_All_1 x0 0 []) := (top_call ..).trans (by kernel_rfl)
theorem lex_All_1_eq (a1 : List UInt8) (a2 : Int) (a3 : List (Int × List UInt8 × Int × Bool × List UInt8 × List UInt8)) : lex_All_1 a1 a2 a3 = (lex_Next a1 a2).bind fun v1 => cond (!decide (v1.2.2 = 0)) (some ([], v1.2)) (cond (Nat.ble ((a3.length + [v1.1].length) * 72) 140737488355328) (cond (decide (v1.1.1 = 0)) (some (a3 ++ [v1.1], 0, 0)) (lex_All_1 a1 v1.2.1 (a3 ++ [v1.1]))) none) := (top_stage ..).trans (by kernel_rfl)
theorem abacistlaw12_quoted_eq (x0 : List UInt8) : abacistlaw12_quoted x0 = abacistlaw12_quoted_1 x0 ([34] : List UInt8) 0 := (top_call ..).trans (by kernel_rfl)
theorem abacistlaw12_quoted_1_eq (a1 : List UInt8) (a2 : List UInt8) (a3 : Int) : abacistlaw12_quoted_1 a1 a2 a3 = cond (decide (a3 < (a1.length : Int))) (cond (decide (0 ≤ a3) && decide (a3 < (a1.length : Int))) (cond (decide (((a1.getD a3.toNat 0).toNat : Int) = 34)) (cond (Nat.ble (a2.length + ([34] : List UInt8).length) 9223372036854775807) (abacistlaw12_quoted_2 a1 (a2 ++ ([34] : List UInt8)) a3) none) (abacistlaw12_quoted_2 a1 a2 a3)) none) (cond (Nat.ble (a2.length + ([34] : List UInt8).length) 9223372036854775807) (some (a2 ++ ([34] : List UInt8))) none) := (top_stage ..).trans (by kernel_rfl)
theorem abacistlaw12_quoted_2_eq (a1 : List UInt8) (a2 : List UInt8) (a3 : Int) : abacistlaw12_quoted_2 a1 a2 a3 = cond (decide (0 ≤ a3) && (decide (a3 ≤ (IntKind.i64.wrap (a3 + 1))) && decide ((IntKind.i64.wrap (a3 + 1)) ≤ (a1.length : Int)))) (cond (Nat.ble (a2.length + ((a1.take ((IntKind.i64.wrap (a3 + 1)).toNat)).drop a3.toNat).length) 9223372036854775807) (abacistlaw12_quoted_1 a1 (a2 ++ ((a1.take ((IntKind.i64.wrap (a3 + 1)).toNat)).drop a3.toNat)) (IntKind.i64.wrap (a3 + 1))) none) none := (top_stage ..).trans (by kernel_rfl)
theorem lex_Next_eq (x0 : List UInt8) (x1 : Int) : lex_Next x0 x1 = cond (decide (x1 < 0)) (lex_Next_1 x0 x1 0 true (0, [], 0, false, [], []) (0, [], 0, false, [], [])) (lex_Next_1 x0 x1 0 (decide (x1 > (x0.length : Int))) (0, [], 0, false, [], []) (0, [], 0, false, [], [])) := (top_call ..).trans (by kernel_rfl)
theorem lex_Next_1_eq (a1 : List UInt8) (a2 : Int) (a3 : Int) (a4 : Bool) (a5 : Int × List UInt8 × Int × Bool × List UInt8 × List UInt8) (a6 : Int × List UInt8 × Int × Bool × List UInt8 × List UInt8) : lex_Next_1 a1 a2 a3 a4 a5 a6 = cond a4 (some ((0, [], 0, false, [], []), 0, 2)) (lex_Next_2 a1 a2 a5 a6 a1 a3 a2) := (top_stage ..).trans (by kernel_rfl)
theorem lex_Next_2_eq (a1 : List UInt8) (a2 : Int) (a3 : Int × List UInt8 × Int × Bool × List UInt8 × List UInt8) (a4 : Int × List UInt8 × Int × Bool × List UInt8 × List UInt8) (a5 : List UInt8) (a6 : Int) (a7 : Int) : lex_Next_2 a1 a2 a3 a4 a5 a6 a7 = lex_Next_3 a1 a2 0 a3 a4 a5 a6 a7 := (top_stage ..).trans (by kernel_rfl)
theorem lex_Next_3_eq (a1 : List UInt8) (a2 : Int) (a3 : Int) (a4 : Int × List UInt8 × Int × Bool × List UInt8 × List UInt8) (a5 : Int × List UInt8 × Int × Bool × List UInt8 × List UInt8) (a6 : List UInt8) (a7 : Int) (a8 : Int) : lex_Next_3 a1 a2 a3 a4 a5 a6 a7 a8 = cond (decide ((IntKind.i64.wrap (a2 + a3)) < (a1.length : Int))) (cond (decide (0 ≤ (IntKind.i64.wrap (a2 + a3))) && decide ((IntKind.i64.wrap (a2 + a3)) < (a1.length : Int))) (lex_Next_4 ((a1.getD ((IntKind.i64.wrap (a2 + a3)).toNat) 0).toNat : Int) a4 a5 a1 a2 a3 true a6 a7 a8) none) (lex_Next_5 a1 a2 a3 false a4 a5 a6 a7 a8) := (top_stage ..).trans (by kernel_rfl)
theorem lex_Next_4_eq (a1 : Int) (a2 : Int × List UInt8 × Int × Bool × List UInt8 × List UInt8) (a3 : Int × List UInt8 × Int × Bool × List UInt8 × List UInt8) (a4 : List UInt8) (a5 : Int) (a6 : Int) (a7 : Bool) (a8 : List UInt8) (a9 : Int) (a10 : Int) : lex_Next_4 a1 a2 a3 a4 a5 a6 a7 a8 a9 a10 = cond a7 (lex_Next_5 a4 a5 a6 (decide (a1 = 32)) a2 a3 a8 a9 a10) (lex_Next_5 a4 a5 a6 false a2 a3 a8 a9 a10) := (top_stage ..).trans (by kernel_rfl)
theorem lex_Next_5_eq (a1 : List UInt8) (a2 : Int) (a3 : Int) (a4 : Bool) (a5 : Int × List UInt8 × Int × Bool × List UInt8 × List UInt8) (a6 : Int × List UInt8 × Int × Bool × List UInt8 × List UInt8) (a7 : List UInt8) (a8 : Int) (a9 : Int) : lex_Next_5 a1 a2 a3 a4 a5 a6 a7 a8 a9 = cond a4 (lex_Next_3 a1 a2 (IntKind.i64.wrap (a3 + 1)) a5 a6 a7 a8 a9) (cond (decide ((IntKind.i64.wrap (a9 + a3)) = (a7.length : Int))) (some ((0, [], IntKind.i64.wrap (a9 + a3), false, [], []), IntKind.i64.wrap (a9 + a3), 0)) (cond (decide (0 ≤ (IntKind.i64.wrap (a9 + a3))) && decide ((IntKind.i64.wrap (a9 + a3)) < (a7.length : Int))) ((lex_digit ((a7.getD ((IntKind.i64.wrap (a9 + a3)).toNat) 0).toNat : Int)).bind fun v1 => cond v1 ((lex_number a7 (IntKind.i64.wrap (a9 + a3))).bind fun v2 => lex_Next_6 (IntKind.i64.wrap (a9 + a3)) v2.2.1 v2.2.2 a5 v2.1) (cond (decide (((a7.getD ((IntKind.i64.wrap (a9 + a3)).toNat) 0).toNat : Int) = 34)) ((lex_text a7 (IntKind.i64.wrap (a9 + a3))).bind fun v3 => lex_Next_6 (IntKind.i64.wrap (a9 + a3)) v3.2.1 v3.2.2 a5 v3.1) (cond (decide (((a7.getD ((IntKind.i64.wrap (a9 + a3)).toNat) 0).toNat : Int) = 35)) ((lex_fault a7 (IntKind.i64.wrap (a9 + a3))).bind fun v4 => lex_Next_6 (IntKind.i64.wrap (a9 + a3)) v4.2.1 v4.2.2 a5 v4.1) ((lex_letter ((a7.getD ((IntKind.i64.wrap (a9 + a3)).toNat) 0).toNat : Int)).bind fun v5 => cond v5 (lex_Next_7 a7 (IntKind.i64.wrap (a9 + a3)) a5 a6 a7 (IntKind.i64.wrap (a9 + a3)) a8) (cond (decide (0 ≤ (IntKind.i64.wrap (a9 + a3))) && decide ((IntKind.i64.wrap (a9 + a3)) ≤ (a7.length : Int))) ((lex_sign (a7.drop ((IntKind.i64.wrap (a9 + a3)).toNat))).bind fun v6 => cond (decide (v6.2 = 0)) (lex_Next_8 (IntKind.i64.wrap (a9 + a3)) v6.2 10 a5 (v6.1, a6.2)) (cond (decide (0 ≤ (IntKind.i64.wrap (a9 + a3))) && (decide ((IntKind.i64.wrap (a9 + a3)) ≤ (IntKind.i64.wrap ((IntKind.i64.wrap (a9 + a3)) + v6.2))) && decide ((IntKind.i64.wrap ((IntKind.i64.wrap (a9 + a3)) + v6.2)) ≤ (a7.length : Int)))) (lex_Next_6 (IntKind.i64.wrap (a9 + a3)) v6.2 a8 a5 (v6.1, (a7.take ((IntKind.i64.wrap ((IntKind.i64.wrap (a9 + a3)) + v6.2)).toNat)).drop ((IntKind.i64.wrap (a9 + a3)).toNat), IntKind.i64.wrap (a9 + a3), a6.2.2.2)) none)) none))))) none)) := (top_stage ..).trans (by kernel_rfl)
theorem lex_Next_6_eq (a1 : Int) (a2 : Int) (a3 : Int) (a4 : Int × List UInt8 × Int × Bool × List UInt8 × List UInt8) (a5 : Int × List UInt8 × Int × Bool × List UInt8 × List UInt8) : lex_Next_6 a1 a2 a3 a4 a5 = cond (!decide (a3 = 0)) (some ((0, [], 0, false, [], []), a1, a3)) (some (a5, IntKind.i64.wrap (a1 + a2), 0)) := (top_stage ..).trans (by kernel_rfl)
theorem lex_Next_7_eq (a1 : List UInt8) (a2 : Int) (a3 : Int × List UInt8 × Int × Bool × List UInt8 × List UInt8) (a4 : Int × List UInt8 × Int × Bool × List UInt8 × List UInt8) (a5 : List UInt8) (a6 : Int) (a7 : Int) : lex_Next_7 a1 a2 a3 a4 a5 a6 a7 = lex_Next_9 a1 a2 0 a3 a4 a5 a6 a7 := (top_stage ..).trans (by kernel_rfl)
theorem lex_Next_8_eq (a1 : Int) (a2 : Int) (a3 : Int) (a4 : Int × List UInt8 × Int × Bool × List UInt8 × List UInt8) (a5 : Int × List UInt8 × Int × Bool × List UInt8 × List UInt8) : lex_Next_8 a1 a2 a3 a4 a5 = cond (!decide (a3 = 0)) (some ((0, [], 0, false, [], []), a1, a3)) (some (a5, IntKind.i64.wrap (a1 + a2), 0)) := (top_stage ..).trans (by kernel_rfl)
theorem lex_Next_9_eq (a1 : List UInt8) (a2 : Int) (a3 : Int) (a4 : Int × List UInt8 × Int × Bool × List UInt8 × List UInt8) (a5 : Int × List UInt8 × Int × Bool × List UInt8 × List UInt8) (a6 : List UInt8) (a7 : Int) (a8 : Int) : lex_Next_9 a1 a2 a3 a4 a5 a6 a7 a8 = cond (decide ((IntKind.i64.wrap (a2 + a3)) < (a1.length : Int))) (cond (decide (0 ≤ (IntKind.i64.wrap (a2 + a3))) && decide ((IntKind.i64.wrap (a2 + a3)) < (a1.length : Int))) ((lex_letter ((a1.getD ((IntKind.i64.wrap (a2 + a3)).toNat) 0).toNat : Int)).bind fun v1 => lex_Next_10 a1 a2 a3 v1 a4 a5 a6 a7 a8) none) (lex_Next_10 a1 a2 a3 false a4 a5 a6 a7 a8) := (top_stage ..).trans (by kernel_rfl)
theorem lex_Next_10_eq (a1 : List UInt8) (a2 : Int) (a3 : Int) (a4 : Bool) (a5 : Int × List UInt8 × Int × Bool × List UInt8 × List UInt8) (a6 : Int × List UInt8 × Int × Bool × List UInt8 × List UInt8) (a7 : List UInt8) (a8 : Int) (a9 : Int) : lex_Next_10 a1 a2 a3 a4 a5 a6 a7 a8 a9 = cond a4 (lex_Next_9 a1 a2 (IntKind.i64.wrap (a3 + 1)) a5 a6 a7 a8 a9) (cond (decide (0 ≤ a8) && (decide (a8 ≤ (IntKind.i64.wrap (a8 + a3))) && decide ((IntKind.i64.wrap (a8 + a3)) ≤ (a7.length : Int)))) (lex_Next_6 a8 a3 a9 a5 (3, (a7.take ((IntKind.i64.wrap (a8 + a3)).toNat)).drop a8.toNat, a8, false, [], [])) none) := (top_stage ..).trans (by kernel_rfl)
theorem lex_digit_eq (x0 : Int) : lex_digit x0 = cond (decide (x0 ≥ 48)) (some (decide (x0 ≤ 57))) (some false) := (top_call ..).trans (by kernel_rfl)
theorem lex_number_eq (x0 : List UInt8) (x1 : Int) : lex_number x0 x1 = lex_number_1 x0 x1 (0, [], 0, false, [], []) x0 x1 := (top_call ..).trans (by kernel_rfl)
theorem lex_number_1_eq (a1 : List UInt8) (a2 : Int) (a3 : Int × List UInt8 × Int × Bool × List UInt8 × List UInt8) (a4 : List UInt8) (a5 : Int) : lex_number_1 a1 a2 a3 a4 a5 = lex_number_2 a1 a2 0 a3 a4 a5 := (top_stage ..).trans (by kernel_rfl)
theorem lex_number_2_eq (a1 : List UInt8) (a2 : Int) (a3 : Int) (a4 : Int × List UInt8 × Int × Bool × List UInt8 × List UInt8) (a5 : List UInt8) (a6 : Int) : lex_number_2 a1 a2 a3 a4 a5 a6 = cond (decide ((IntKind.i64.wrap (a2 + a3)) < (a1.length : Int))) (cond (decide (0 ≤ (IntKind.i64.wrap (a2 + a3))) && decide ((IntKind.i64.wrap (a2 + a3)) < (a1.length : Int))) ((lex_digit ((a1.getD ((IntKind.i64.wrap (a2 + a3)).toNat) 0).toNat : Int)).bind fun v1 => lex_number_3 a1 a2 a3 v1 a4 a5 a6) none) (lex_number_3 a1 a2 a3 false a4 a5 a6) := (top_stage ..).trans (by kernel_rfl)
theorem lex_number_3_eq (a1 : List UInt8) (a2 : Int) (a3 : Int) (a4 : Bool) (a5 : Int × List UInt8 × Int × Bool × List UInt8 × List UInt8) (a6 : List UInt8) (a7 : Int) : lex_number_3 a1 a2 a3 a4 a5 a6 a7 = cond a4 (lex_number_2 a1 a2 (IntKind.i64.wrap (a3 + 1)) a5 a6 a7) (lex_number_4 a6 (IntKind.i64.wrap ((IntKind.i64.wrap (a7 + a3)) + 1)) a5 a6 a7 a3) := (top_stage ..).trans (by kernel_rfl)
theorem lex_number_4_eq (a1 : List UInt8) (a2 : Int) (a3 : Int × List UInt8 × Int × Bool × List UInt8 × List UInt8) (a4 : List UInt8) (a5 : Int) (a6 : Int) : lex_number_4 a1 a2 a3 a4 a5 a6 = lex_number_5 a1 a2 0 a3 a4 a5 a6 := (top_stage ..).trans (by kernel_rfl)
theorem lex_number_5_eq (a1 : List UInt8) (a2 : Int) (a3 : Int) (a4 : Int × List UInt8 × Int × Bool × List UInt8 × List UInt8) (a5 : List UInt8) (a6 : Int) (a7 : Int) : lex_number_5 a1 a2 a3 a4 a5 a6 a7 = cond (decide ((IntKind.i64.wrap (a2 + a3)) < (a1.length : Int))) (cond (decide (0 ≤ (IntKind.i64.wrap (a2 + a3))) && decide ((IntKind.i64.wrap (a2 + a3)) < (a1.length : Int))) ((lex_digit ((a1.getD ((IntKind.i64.wrap (a2 + a3)).toNat) 0).toNat : Int)).bind fun v1 => lex_number_6 a1 a2 a3 v1 a4 a5 a6 a7) none) (lex_number_6 a1 a2 a3 false a4 a5 a6 a7) := (top_stage ..).trans (by kernel_rfl)
theorem lex_number_6_eq (a1 : List UInt8) (a2 : Int) (a3 : Int) (a4 : Bool) (a5 : Int × List UInt8 × Int × Bool × List UInt8 × List UInt8) (a6 : List UInt8) (a7 : Int) (a8 : Int) : lex_number_6 a1 a2 a3 a4 a5 a6 a7 a8 = cond a4 (lex_number_5 a1 a2 (IntKind.i64.wrap (a3 + 1)) a5 a6 a7 a8) (cond (decide (a3 > 0)) (cond (decide (0 ≤ (IntKind.i64.wrap (a7 + a8))) && decide ((IntKind.i64.wrap (a7 + a8)) < (a6.length : Int))) (lex_number_7 a6 a7 a8 a3 (decide (((a6.getD ((IntKind.i64.wrap (a7 + a8)).toNat) 0).toNat : Int) = 46)) a5) none) (lex_number_7 a6 a7 a8 a3 false a5)) := (top_stage ..).trans (by kernel_rfl)
theorem lex_number_7_eq (a1 : List UInt8) (a2 : Int) (a3 : Int) (a4 : Int) (a5 : Bool) (a6 : Int × List UInt8 × Int × Bool × List UInt8 × List UInt8) : lex_number_7 a1 a2 a3 a4 a5 a6 = cond a5 (lex_number_8 a1 a2 (IntKind.i64.wrap (a3 + (IntKind.i64.wrap (1 + a4)))) a6) (lex_number_8 a1 a2 a3 a6) := (top_stage ..).trans (by kernel_rfl)
theorem lex_number_8_eq (a1 : List UInt8) (a2 : Int) (a3 : Int) (a4 : Int × List UInt8 × Int × Bool × List UInt8 × List UInt8) : lex_number_8 a1 a2 a3 a4 = cond (decide (0 ≤ a2) && (decide (a2 ≤ (IntKind.i64.wrap (a2 + a3))) && decide ((IntKind.i64.wrap (a2 + a3)) ≤ (a1.length : Int)))) ((numtext_Decimal ((a1.take ((IntKind.i64.wrap (a2 + a3)).toNat)).drop a2.toNat)).bind fun v1 => cond (decide (0 ≤ a2) && (decide (a2 ≤ (IntKind.i64.wrap (a2 + a3))) && decide ((IntKind.i64.wrap (a2 + a3)) ≤ (a1.length : Int)))) (some ((1, (a1.take ((IntKind.i64.wrap (a2 + a3)).toNat)).drop a2.toNat, a2, v1.1), a3, v1.2)) none) none := (top_stage ..).trans (by kernel_rfl)
theorem lex_fault_eq (x0 : List UInt8) (x1 : Int) : lex_fault x0 x1 = lex_fault_1 x0 x1 ([] : List UInt8) 1 (0, [], 0, false, [], []) := (top_call ..).trans (by kernel_rfl)
theorem lex_fault_1_eq (a1 : List UInt8) (a2 : Int) (a3 : List UInt8) (a4 : Int) (a5 : Int × List UInt8 × Int × Bool × List UInt8 × List UInt8) : lex_fault_1 a1 a2 a3 a4 a5 = cond (decide (a4 ≤ 7)) ((value_Name a4).bind fun v1 => cond (decide ((v1.length : Int) > (a3.length : Int))) (cond (decide (0 ≤ a2) && decide (a2 ≤ (a1.length : Int))) ((strings_HasPrefix (a1.drop a2.toNat) v1).bind fun v2 => lex_fault_2 a1 a2 a3 a4 v1 v2 a5) none) (lex_fault_2 a1 a2 a3 a4 v1 false a5)) (cond (decide (a3 = ([] : List UInt8))) (some ((0, [], 0, false, [], []), 0, 10)) (some ((10, a3, a2, false, [], []), (a3.length : Int), 0))) := (top_stage ..).trans (by kernel_rfl)
theorem lex_fault_2_eq (a1 : List UInt8) (a2 : Int) (a3 : List UInt8) (a4 : Int) (a5 : List UInt8) (a6 : Bool) (a7 : Int × List UInt8 × Int × Bool × List UInt8 × List UInt8) : lex_fault_2 a1 a2 a3 a4 a5 a6 a7 = cond a6 (lex_fault_3 a1 a2 a5 a4 a7) (lex_fault_3 a1 a2 a3 a4 a7) := (top_stage ..).trans (by kernel_rfl)
theorem lex_fault_3_eq (a1 : List UInt8) (a2 : Int) (a3 : List UInt8) (a4 : Int) (a5 : Int × List UInt8 × Int × Bool × List UInt8 × List UInt8) : lex_fault_3 a1 a2 a3 a4 a5 = lex_fault_1 a1 a2 a3 (IntKind.i64.wrap (a4 + 1)) a5 := (top_stage ..).trans (by kernel_rfl)
theorem lex_letter_eq (x0 : Int) : lex_letter x0 = cond (decide (x0 ≥ 65)) (cond (decide (x0 ≤ 90)) (some true) (cond (decide (x0 ≥ 97)) (cond (decide (x0 ≤ 122)) (some true) ((lex_digit x0).bind fun v1 => cond v1 (some true) (cond (decide (x0 = 36)) (some true) (some (decide (x0 = 95)))))) ((lex_digit x0).bind fun v2 => cond v2 (some true) (cond (decide (x0 = 36)) (some true) (some (decide (x0 = 95))))))) (cond (decide (x0 ≥ 97)) (cond (decide (x0 ≤ 122)) (some true) ((lex_digit x0).bind fun v3 => cond v3 (some true) (cond (decide (x0 = 36)) (some true) (some (decide (x0 = 95)))))) ((lex_digit x0).bind fun v4 => cond v4 (some true) (cond (decide (x0 = 36)) (some true) (some (decide (x0 = 95)))))) := (top_call ..).trans (by kernel_rfl)
theorem lex_sign_eq (x0 : List UInt8) : lex_sign x0 = cond (decide (0 ≤ 0) && decide (0 < (x0.length : Int))) (cond (decide (((x0.getD 0 0).toNat : Int) = 40)) (some (5, 1)) (cond (decide (((x0.getD 0 0).toNat : Int) = 41)) (some (6, 1)) (cond (decide (((x0.getD 0 0).toNat : Int) = 44)) (some (7, 1)) (cond (decide (((x0.getD 0 0).toNat : Int) = 58)) (some (8, 1)) (cond (decide (((x0.getD 0 0).toNat : Int) = 33)) (some (9, 1)) (cond (decide (((x0.getD 0 0).toNat : Int) = 60)) ((strings_HasPrefix x0 ([60, 62] : List UInt8)).bind fun v1 => cond v1 (some (4, 2)) (lex_sign_1 x0)) (cond (decide (((x0.getD 0 0).toNat : Int) = 62)) (lex_sign_1 x0) (cond (decide (((x0.getD 0 0).toNat : Int) = 43)) (lex_sign_2 true) (cond (decide (((x0.getD 0 0).toNat : Int) = 45)) (lex_sign_2 true) (cond (decide (((x0.getD 0 0).toNat : Int) = 42)) (lex_sign_2 true) (cond (decide (((x0.getD 0 0).toNat : Int) = 47)) (lex_sign_2 true) (cond (decide (((x0.getD 0 0).toNat : Int) = 94)) (lex_sign_2 true) (cond (decide (((x0.getD 0 0).toNat : Int) = 38)) (lex_sign_2 true) (cond (decide (((x0.getD 0 0).toNat : Int) = 61)) (lex_sign_2 true) (lex_sign_2 (decide (((x0.getD 0 0).toNat : Int) = 37))))))))))))))))) none := (top_call ..).trans (by kernel_rfl)
theorem lex_sign_1_eq (a1 : List UInt8) : lex_sign_1 a1 = cond (decide ((a1.length : Int) > 1)) (cond (decide (0 ≤ 1) && decide (1 < (a1.length : Int))) (lex_sign_3 (decide (((a1.getD 1 0).toNat : Int) = 61))) none) (lex_sign_3 false) := (top_stage ..).trans (by kernel_rfl)
theorem lex_sign_2_eq (a1 : Bool) : lex_sign_2 a1 = cond a1 (some (4, 1)) (some (0, 0)) := (top_stage ..).trans (by kernel_rfl)
theorem lex_sign_3_eq (a1 : Bool) : lex_sign_3 a1 = cond a1 (some (4, 2)) (some (4, 1)) := (top_stage ..).trans (by kernel_rfl)
theorem numtext_Decimal_eq (x0 : List UInt8) : numtext_Decimal x0 = (strings_Cut x0 ([46] : List UInt8)).bind fun v1 => (numtext_digits v1.1).bind fun v2 => cond (!v2) (numtext_Decimal_1 x0 v1.1 v1.2.1 true (false, [], [])) (cond v1.2.2 ((numtext_digits v1.2.1).bind fun v3 => numtext_Decimal_1 x0 v1.1 v1.2.1 (!v3) (false, [], [])) (numtext_Decimal_1 x0 v1.1 v1.2.1 false (false, [], []))) := (top_call ..).trans (by kernel_rfl)
theorem numtext_Decimal_1_eq (a1 : List UInt8) (a2 : List UInt8) (a3 : List UInt8) (a4 : Bool) (a5 : Bool × List UInt8 × List UInt8) : numtext_Decimal_1 a1 a2 a3 a4 a5 = cond a4 (some ((false, [], []), 10)) (cond (decide ((a1.length : Int) > 400)) (some ((false, [], []), 9)) (cond (Nat.ble (a2.length + a3.length) 9223372036854775807) ((dec_Parse (a2 ++ a3)).bind fun v1 => cond (!decide (v1.2 = 0)) (some ((false, [], []), v1.2)) ((whole_Make false v1.1).bind fun v2 => (numtext_power 10 (a3.length : Int)).bind fun v3 => (whole_Make false v3).bind fun v4 => (rat_Make v2 v4).bind fun v5 => some v5)) none)) := (top_stage ..).trans (by kernel_rfl)
theorem value_Name_eq (x0 : Int) : value_Name x0 = value_Name_1 x0 := (top_call ..).trans (by kernel_rfl)
theorem value_Name_1_eq (a1 : Int) : value_Name_1 a1 = cond (decide (a1 < 0)) (value_Name_2 a1 true ([] : List UInt8) ([35, 68, 73, 86, 47, 48, 33] : List UInt8) ([35, 86, 65, 76, 85, 69, 33] : List UInt8) ([35, 82, 69, 70, 33] : List UInt8) ([35, 78, 65, 77, 69, 63] : List UInt8) ([35, 78, 85, 77, 33] : List UInt8) ([35, 78, 47, 65] : List UInt8) ([35, 67, 73, 82, 67, 33] : List UInt8)) (value_Name_2 a1 (decide (a1 ≥ 8)) ([] : List UInt8) ([35, 68, 73, 86, 47, 48, 33] : List UInt8) ([35, 86, 65, 76, 85, 69, 33] : List UInt8) ([35, 82, 69, 70, 33] : List UInt8) ([35, 78, 65, 77, 69, 63] : List UInt8) ([35, 78, 85, 77, 33] : List UInt8) ([35, 78, 47, 65] : List UInt8) ([35, 67, 73, 82, 67, 33] : List UInt8)) := (top_stage ..).trans (by kernel_rfl)
theorem value_Name_2_eq (a1 : Int) (a2 : Bool) (a3 : List UInt8) (a4 : List UInt8) (a5 : List UInt8) (a6 : List UInt8) (a7 : List UInt8) (a8 : List UInt8) (a9 : List UInt8) (a10 : List UInt8) : value_Name_2 a1 a2 a3 a4 a5 a6 a7 a8 a9 a10 = cond a2 (some ([] : List UInt8)) (cond (decide (0 ≤ a1) && decide (a1 < (8 : Int))) (some (([a3, a4, a5, a6, a7, a8, a9, a10] : List (List UInt8)).getD a1.toNat [])) none) := (top_stage ..).trans (by kernel_rfl)
theorem strings_HasPrefix_eq (x0 : List UInt8) (x1 : List UInt8) : strings_HasPrefix x0 x1 = (internal_stringslite_HasPrefix x0 x1).bind fun v1 => some v1 := (top_call ..).trans (by kernel_rfl)
theorem numtext_digits_eq (x0 : List UInt8) : numtext_digits x0 = numtext_digits_1 x0 (x0.map fun b => (b.toNat : Int)) ((x0.map fun b => (b.toNat : Int)).length : Int) 0 := (top_call ..).trans (by kernel_rfl)
theorem numtext_digits_1_eq (a1 : List UInt8) (a2 : List Int) (a3 : Int) (a4 : Int) : numtext_digits_1 a1 a2 a3 a4 = cond (decide (a4 < a3)) (cond (decide (0 ≤ a4) && decide (a4 < (a2.length : Int))) (cond (decide ((a2.getD a4.toNat 0) < 48)) (numtext_digits_2 a1 a2 a3 a4 true) (numtext_digits_2 a1 a2 a3 a4 (decide ((a2.getD a4.toNat 0) > 57)))) none) (some (!decide (a1 = ([] : List UInt8)))) := (top_stage ..).trans (by kernel_rfl)
theorem numtext_digits_2_eq (a1 : List UInt8) (a2 : List Int) (a3 : Int) (a4 : Int) (a5 : Bool) : numtext_digits_2 a1 a2 a3 a4 a5 = cond a5 (some false) (numtext_digits_1 a1 a2 a3 (IntKind.i64.wrap (a4 + 1))) := (top_stage ..).trans (by kernel_rfl)
theorem dec_Parse_eq (x0 : List UInt8) : dec_Parse x0 = cond (decide (x0 = ([] : List UInt8))) (dec_Parse_1 x0 true) ((dec_odd x0).bind fun v1 => dec_Parse_1 x0 v1) := (top_call ..).trans (by kernel_rfl)
theorem dec_Parse_1_eq (a1 : List UInt8) (a2 : Bool) : dec_Parse_1 a1 a2 = cond a2 (some (([] : List UInt8), 3)) (cond (decide ((a1.length : Int) > 400)) (some (([] : List UInt8), 9)) (dec_Parse_2 a1 ([] : List UInt8))) := (top_stage ..).trans (by kernel_rfl)
theorem dec_Parse_2_eq (a1 : List UInt8) (a2 : List UInt8) : dec_Parse_2 a1 a2 = cond (decide ((a1.length : Int) > 0)) (cond (decide (0 ≤ (min 9 (a1.length : Int))) && decide ((min 9 (a1.length : Int)) ≤ (a1.length : Int))) (dec_Parse_3 a1 a2 (min 9 (a1.length : Int)) 0 1 ((a1.take ((min 9 (a1.length : Int)).toNat)).map fun b => (b.toNat : Int)) (((a1.take ((min 9 (a1.length : Int)).toNat)).map fun b => (b.toNat : Int)).length : Int) 0) none) (some (a2, 0)) := (top_stage ..).trans (by kernel_rfl)
theorem dec_Parse_3_eq (a1 : List UInt8) (a2 : List UInt8) (a3 : Int) (a4 : Int) (a5 : Int) (a6 : List Int) (a7 : Int) (a8 : Int) : dec_Parse_3 a1 a2 a3 a4 a5 a6 a7 a8 = cond (decide (a8 < a7)) (cond (decide (0 ≤ a8) && decide (a8 < (a6.length : Int))) (dec_Parse_3 a1 a2 a3 (IntKind.u64.wrap ((IntKind.u64.wrap (a4 * 10)) + (IntKind.u64.wrap (IntKind.u8.wrap ((a6.getD a8.toNat 0) - 48))))) (IntKind.u64.wrap (a5 * 10)) a6 a7 (IntKind.i64.wrap (a8 + 1))) none) ((nat_Of a5).bind fun v1 => (nat_Mul a2 v1).bind fun v2 => (nat_Of a4).bind fun v3 => (nat_Add v2 v3).bind fun v4 => cond (decide (0 ≤ a3) && decide (a3 ≤ (a1.length : Int))) (dec_Parse_2 (a1.drop a3.toNat) v4) none) := (top_stage ..).trans (by kernel_rfl)
theorem whole_Make_eq (x0 : Bool) (x1 : List UInt8) : whole_Make x0 x1 = (nat_Trim x1).bind fun v1 => cond x0 (some (!decide (v1 = ([] : List UInt8)), v1)) (some (false, v1)) := (top_call ..).trans (by kernel_rfl)
theorem numtext_power_eq (x0 : Int) (x1 : Int) : numtext_power x0 x1 = (nat_Of x0).bind fun v1 => (divide_Pow v1 x1).bind fun v2 => cond (!decide (v2.2 = 0)) (some ([] : List UInt8)) (some v2.1) := (top_call ..).trans (by kernel_rfl)
theorem rat_Make_eq (x0 : Bool × List UInt8) (x1 : Bool × List UInt8) : rat_Make x0 x1 = (nat_Trim x0.2).bind fun v1 => (nat_Trim x1.2).bind fun v2 => cond (decide (v2 = ([] : List UInt8))) (some ((false, [], []), 5)) ((divide_Gcd v1 v2).bind fun v3 => cond (!decide (v3 = ([1] : List UInt8))) ((divide_DivMod v1 v3).bind fun v4 => (divide_DivMod v2 v3).bind fun v5 => rat_Make_1 v4.1 v5.1 x0 x1 (false, [], [])) (rat_Make_1 v1 v2 x0 x1 (false, [], []))) := (top_call ..).trans (by kernel_rfl)
theorem rat_Make_1_eq (a1 : List UInt8) (a2 : List UInt8) (a3 : Bool × List UInt8) (a4 : Bool × List UInt8) (a5 : Bool × List UInt8 × List UInt8) : rat_Make_1 a1 a2 a3 a4 a5 = cond (decide ((a1.length : Int) > 32)) (rat_Make_2 a1 a2 true a3 a4 a5) (rat_Make_2 a1 a2 (decide ((a2.length : Int) > 32)) a3 a4 a5) := (top_stage ..).trans (by kernel_rfl)
theorem rat_Make_2_eq (a1 : List UInt8) (a2 : List UInt8) (a3 : Bool) (a4 : Bool × List UInt8) (a5 : Bool × List UInt8) (a6 : Bool × List UInt8 × List UInt8) : rat_Make_2 a1 a2 a3 a4 a5 a6 = cond a3 (some ((false, [], []), 4)) (cond (!decide (a1 = ([] : List UInt8))) (some ((!(a4.1 == a5.1), a1, a2), 0)) (some ((false, a1, a2), 0))) := (top_stage ..).trans (by kernel_rfl)
theorem internal_stringslite_HasPrefix_eq (x0 : List UInt8) (x1 : List UInt8) : internal_stringslite_HasPrefix x0 x1 = cond (decide ((x0.length : Int) ≥ (x1.length : Int))) (cond (decide (0 ≤ (x1.length : Int)) && decide ((x1.length : Int) ≤ (x0.length : Int))) (some (decide ((x0.take ((x1.length : Int).toNat)) = x1))) none) (some false) := (top_call ..).trans (by kernel_rfl)
theorem dec_odd_eq (x0 : List UInt8) : dec_odd x0 = dec_odd_1 (x0.map fun b => (b.toNat : Int)) ((x0.map fun b => (b.toNat : Int)).length : Int) 0 := (top_call ..).trans (by kernel_rfl)
theorem dec_odd_1_eq (a1 : List Int) (a2 : Int) (a3 : Int) : dec_odd_1 a1 a2 a3 = cond (decide (a3 < a2)) (cond (decide (0 ≤ a3) && decide (a3 < (a1.length : Int))) (cond (decide ((a1.getD a3.toNat 0) < 48)) (dec_odd_2 a1 a2 a3 true) (dec_odd_2 a1 a2 a3 (decide ((a1.getD a3.toNat 0) > 57)))) none) (some false) := (top_stage ..).trans (by kernel_rfl)
theorem dec_odd_2_eq (a1 : List Int) (a2 : Int) (a3 : Int) (a4 : Bool) : dec_odd_2 a1 a2 a3 a4 = cond a4 (some true) (dec_odd_1 a1 a2 (IntKind.i64.wrap (a3 + 1))) := (top_stage ..).trans (by kernel_rfl)
end Go.Proofs.YtenebjaipfcflaaDoor.K

/- Decimal digits: plain Lean; the program's and the reference's. -/
set_option linter.unusedVariables false
set_option linter.unusedSimpArgs false
namespace Go.Proofs.YtenebjaipfcflaaDoor.P
open Go Go.Proofs.YtenebjaipfcflaaDoor.Q
def dv (l : List UInt8) : Nat := l.foldl (fun n c => n * 10 + (c.toNat - 48)) 0
theorem dv_nil : dv [] = 0 := rfl
theorem dv_snoc (l : List UInt8) (c : UInt8) : dv (l ++ [c]) = dv l * 10 + (c.toNat - 48) := by unfold dv; rw [List.foldl_append]; rfl
theorem snocU {Q : List UInt8 → Prop} (h0 : Q []) (h1 : ∀ l b, Q l → Q (l ++ [b])) : ∀ l, Q l := by
  intro l
  have : Q l.reverse.reverse := by
    induction l.reverse with
    | nil => exact h0
    | cons b l ih => rw [List.reverse_cons]; exact h1 _ _ ih
  rwa [List.reverse_reverse] at this
theorem dv_append (a : List UInt8) : ∀ b, dv (a ++ b) = dv a * 10 ^ b.length + dv b := by
  refine snocU ?_ ?_
  · simp [dv_nil]
  · intro l c ih
    rw [← List.append_assoc, dv_snoc, ih, dv_snoc, List.length_append, List.length_cons, List.length_nil, Nat.pow_succ]
    generalize 10 ^ l.length = X
    rw [Nat.add_mul, Nat.mul_assoc]; omega
theorem dv_cons (c : UInt8) (l : List UInt8) : dv (c :: l) = (c.toNat - 48) * 10 ^ l.length + dv l := by
  have := dv_append [c] l
  simpa [dv] using this
def dig (c : UInt8) : Bool := decide (48 ≤ c.toNat) && decide (c.toNat ≤ 57)
def good (l : List UInt8) : Bool := l.all dig
theorem dig_le {c : UInt8} (h : dig c = true) : 48 ≤ c.toNat ∧ c.toNat ≤ 57 := by
  unfold dig at h
  simpa using h
theorem dv_lt (l : List UInt8) (h : good l = true) : dv l < 10 ^ l.length := by
  revert h
  refine snocU (Q := fun l => good l = true → dv l < 10 ^ l.length) ?_ ?_ l
  · intro _; simp [dv_nil]
  · intro l c ih h
    have h1 : good l = true ∧ dig c = true := by simpa [good] using h
    have h2 := ih h1.1
    have h3 := dig_le h1.2
    rw [dv_snoc, List.length_append, List.length_cons, List.length_nil, Nat.pow_succ]
    omega
def ten (n : Nat) : List UInt8 := if h : n = 0 then [] else ten (n / 10) ++ [UInt8.ofNat (48 + n % 10)]
termination_by n
decreasing_by omega
theorem ten_zero : ten 0 = [] := by rw [ten]; simp
theorem ten_pos {n : Nat} (h : n ≠ 0) : ten n = ten (n / 10) ++ [UInt8.ofNat (48 + n % 10)] := by rw [ten]; simp [h]
theorem ten_nil {n : Nat} : ten n = [] ↔ n = 0 := by
  constructor
  · intro h
    rcases Nat.eq_zero_or_pos n with h0 | h0
    · exact h0
    · rw [ten_pos (by omega)] at h
      simp at h
  · rintro rfl; exact ten_zero
theorem byte48 (n : Nat) : (UInt8.ofNat (48 + n % 10)).toNat = 48 + n % 10 := UInt8.toNat_ofNat_of_lt' (by show _ < 256; omega)
theorem byte_back {c : UInt8} (h : dig c = true) : UInt8.ofNat (48 + (c.toNat - 48) % 10) = c := by
  have := dig_le h
  apply UInt8.toNat_inj.1
  rw [byte48]
  omega
theorem trim_snoc (l : List UInt8) (c : UInt8) : Lib.trimLeftB (l ++ [c]) 48 = if Lib.trimLeftB l 48 = [] then (if c = 48 then [] else [c]) else Lib.trimLeftB l 48 ++ [c] := by
  unfold Lib.trimLeftB
  induction l with
  | nil => by_cases h : c = 48 <;> simp [List.dropWhile_cons, h]
  | cons a l ih =>
    simp only [List.cons_append, List.dropWhile_cons]
    split
    · exact ih
    · simp
theorem trim_ten (l : List UInt8) (h : good l = true) : Lib.trimLeftB l 48 = ten (dv l) := by
  revert h
  refine snocU (Q := fun l => good l = true → Lib.trimLeftB l 48 = ten (dv l)) ?_ ?_ l
  · intro _; rw [dv_nil, ten_zero]; rfl
  · intro l c ih h
    have h1 : good l = true ∧ dig c = true := by simpa [good] using h
    have h2 := ih h1.1
    have h3 := dig_le h1.2
    have h4 := byte_back h1.2
    rw [trim_snoc, h2, dv_snoc]
    by_cases hz : dv l = 0
    · rw [hz, ten_zero, if_pos rfl]
      by_cases hc : c = 48
      · subst hc; rw [if_pos rfl]; exact ten_zero.symm
      · have hc2 : c.toNat ≠ 48 := fun e => hc (UInt8.toNat_inj.1 e)
        rw [if_neg hc, ten_pos (by omega), show (0 * 10 + (c.toNat - 48)) / 10 = 0 by omega, ten_zero, show (0 * 10 + (c.toNat - 48)) % 10 = (c.toNat - 48) % 10 by omega, h4]; rfl
    · rw [if_neg (fun e => hz (ten_nil.1 e)), ten_pos (n := dv l * 10 + (c.toNat - 48)) (by omega), show (dv l * 10 + (c.toNat - 48)) / 10 = dv l by omega, show (dv l * 10 + (c.toNat - 48)) % 10 = (c.toNat - 48) % 10 by omega, h4]
theorem dig48 (n : Nat) : dig (UInt8.ofNat (48 + n % 10)) = true := by
  unfold dig
  rw [byte48]
  simp; omega
def decT (n : Nat) : List UInt8 := if n = 0 then [48] else ten n
theorem ten_good (n : Nat) : good (ten n) = true := by
  induction n using Nat.strongRecOn with
  | _ n ih =>
    by_cases h : n = 0
    · subst h; rw [ten_zero]; rfl
    · have := ih (n / 10) (by omega)
      unfold good at *
      rw [ten_pos h, List.all_append, this]; simp only [List.all_cons, List.all_nil, dig48, Bool.and_true]
theorem ten_dv (n : Nat) : dv (ten n) = n := by
  induction n using Nat.strongRecOn with
  | _ n ih =>
    by_cases h : n = 0
    · subst h; rw [ten_zero]; rfl
    · rw [ten_pos h, dv_snoc, ih (n / 10) (by omega), byte48]; omega
theorem ten_len {k : Nat} : ∀ {n : Nat}, n < 10 ^ k → (ten n).length ≤ k := by
  induction k with
  | zero => intro n h; have : n = 0 := by simpa using h
            subst this; rw [ten_zero]; exact Nat.le_refl _
  | succ k ih =>
    intro n h
    by_cases h0 : n = 0
    · subst h0; rw [ten_zero]; exact Nat.zero_le _
    · have := ih (n := n / 10) (by rw [Nat.pow_succ] at h; omega)
      rw [ten_pos h0, List.length_append]; simp; omega
theorem decT_good (n : Nat) : good (decT n) = true := by
  unfold decT
  split
  · rfl
  · exact ten_good n
theorem decT_dv (n : Nat) : dv (decT n) = n := by
  unfold decT
  split
  · rename_i h; subst h; rfl
  · exact ten_dv n
theorem decT_ne (n : Nat) : decT n ≠ [] := by
  unfold decT
  split
  · simp
  · rename_i h; exact fun e => h (ten_nil.1 e)
theorem decT_len {k n : Nat} (h : n < 10 ^ k) (hk : 1 ≤ k) : (decT n).length ≤ k := by
  unfold decT
  split
  · exact hk
  · exact ten_len h
theorem decT_len2 {a b n : Nat} (h : n < 10 ^ a * 10 ^ b) (hk : 1 ≤ a + b) : (decT n).length ≤ a + b := decT_len (by rw [Nat.pow_add]; exact h) hk
theorem decT_150 {n : Nat} (h : n < 256 ^ 75 * 256 ^ 75) : (decT n).length ≤ 400 := by
  have h1 : (256 : Nat) ^ 75 ≤ 10 ^ 200 := Nat.le_of_ble_eq_true rfl
  exact decT_len2 (a := 200) (b := 200) (Nat.lt_of_lt_of_le h (Nat.mul_le_mul h1 h1)) (by omega)
theorem nat_ten_len {n k : Nat} (h : n < 10 ^ k) : (nat n).length ≤ k := nat_length_le (Nat.lt_of_lt_of_le h (Nat.pow_le_pow_left (by decide) k))
end Go.Proofs.YtenebjaipfcflaaDoor.P
namespace Go.Proofs.YtenebjaipfcflaaDoor.D
open Go Go.Proofs.YtenebjaipfcflaaDoor.K
open Go.Proofs.YtenebjaipfcflaaDoor.P (nat val dv good dig dig_le ten ten_zero ten_pos ten_nil ten_len ten_good ten_dv decT decT_good decT_dv decT_ne decT_len decT_150 trim_ten dv_nil dv_snoc dv_append dv_cons dv_lt divmod small val_nat nat_zero nat_eq_nil nat_val_length nat_length_le len_mono val_lt wS nat_ten_len val_one)
open Go.Proofs.YtenebjaipfcflaaDoor.Q (trimQ ofQ smallQ addQ mulQ divQ ok1)
theorem ok_le {s : List UInt8} (h : s.length ≤ 1000000000) : ok1 s = true := Nat.ble_eq_true_of_le h
theorem xTrim (s : List UInt8) (h : s.length ≤ 1000000000) : nat_Trim s = some (nat (val s)) := by
  refine (top_call ..).trans ?_
  show trimQ s = _
  unfold trimQ
  rw [ok_le h, cond_true, P.trimB]
theorem ofQ_eq (n : Nat) (h : n < 18446744073709551616) : ofQ (n : Int) = some (nat n) := by
  unfold ofQ
  rw [show (decide ((0 : Int) ≤ (n : Int)) && decide ((n : Int) < 18446744073709551616)) = true by simp; omega, cond_true, Int.toNat_natCast]
theorem xOf (n : Nat) (h : n < 18446744073709551616) : nat_Of (n : Int) = some (nat n) := (top_call ..).trans (ofQ_eq n h)
theorem ok2 {a b : List UInt8} (ha : a.length ≤ 1000000000) (hb : b.length ≤ 1000000000) : (ok1 a && ok1 b) = true := by rw [ok_le ha, ok_le hb]; rfl
theorem addQ_eq (a b : List UInt8) (ha : a.length ≤ 1000000000) (hb : b.length ≤ 1000000000) : addQ (a, b) = some (nat (val a + val b)) := by
  unfold addQ
  simp only
  rw [ok2 ha hb, cond_true]
theorem mulQ_eq (a b : List UInt8) (ha : a.length ≤ 1000000000) (hb : b.length ≤ 1000000000) : mulQ (a, b) = some (nat (val a * val b)) := by
  unfold mulQ
  simp only
  rw [ok2 ha hb, cond_true]
theorem divQ_eq (a b : List UInt8) (ha : a.length ≤ 1000000000) (hb : b.length ≤ 1000000000) : divQ (a, b) = some (divmod (val a) (val b)) := by
  unfold divQ
  simp only
  rw [ok2 ha hb, cond_true]
theorem xAdd (a b : List UInt8) (ha : a.length ≤ 1000000000) (hb : b.length ≤ 1000000000) : nat_Add a b = some (nat (val a + val b)) := (top_call ..).trans (addQ_eq a b ha hb)
theorem xMul (a b : List UInt8) (ha : a.length ≤ 1000000000) (hb : b.length ≤ 1000000000) : nat_Mul a b = some (nat (val a * val b)) := (top_call ..).trans (mulQ_eq a b ha hb)
theorem xDiv (a b : List UInt8) (ha : a.length ≤ 1000000000) (hb : b.length ≤ 1000000000) : divide_DivMod a b = some (divmod (val a) (val b)) := (top_call ..).trans (divQ_eq a b ha hb)
/-! ### the reference's text -/
/-! ### how often a number divides one -/
def ordB (b m : Nat) : Nat := if h : m = 0 ∨ b < 2 then 0 else if m % b = 0 then ordB b (m / b) + 1 else 0
termination_by m
decreasing_by exact Nat.div_lt_self (by omega) (by omega)
/-! ### texts as numbers -/
def parseV (s : List UInt8) : List UInt8 × Int := if s = [] ∨ good s = false then ([], 3) else if s.length > 400 then ([], 9) else (nat (dv s), 0)
theorem good_get {s : List UInt8} {i : Nat} (h : i < s.length) : s[i] = s.getD i 0 := by
  rw [List.getD_eq_getElem?_getD, List.getElem?_eq_getElem h]; rfl
theorem good_drop {s : List UInt8} {i : Nat} (h : i < s.length) : good (s.drop i) = (dig (s.getD i 0) && good (s.drop (i + 1))) := by
  rw [List.drop_eq_getElem_cons h, good_get h]; rfl
theorem xOdd1 (s : List UInt8) (hs : s.length ≤ 9223372036854775807) : ∀ (m i : Nat), i + m = s.length → dec_odd_1 (s.map fun b => (b.toNat : Int)) ((s.map fun b => (b.toNat : Int)).length : Int) (i : Int) = some (!good (s.drop i))
  | 0, i, h => by
    rw [dec_odd_1_eq, cF (decide_eq_false (by rw [List.length_map]; omega)), List.drop_of_length_le (by omega)]; rfl
  | m + 1, i, h => by
    have hi : i < s.length := by omega
    have hg : (s.map fun b => (b.toNat : Int)).getD (i : Int).toNat 0 = ((s.getD i 0).toNat : Int) := by simp [List.getD, hi]
    have next : dec_odd_2 (s.map fun b => (b.toNat : Int)) ((s.map fun b => (b.toNat : Int)).length : Int) (i : Int) false = some (!good (s.drop (i + 1))) := by
      rw [dec_odd_2_eq, cond_false, wS (by omega)]; exact xOdd1 s hs m (i + 1) (by omega)
    have stop : dec_odd_2 (s.map fun b => (b.toNat : Int)) ((s.map fun b => (b.toNat : Int)).length : Int) (i : Int) true = some true := by rw [dec_odd_2_eq, cond_true]
    rw [dec_odd_1_eq, cT (decide_eq_true (by rw [List.length_map]; omega)), cT (by rw [List.length_map]; exact ix hi), hg, good_drop hi]
    generalize s.getD i 0 = c
    by_cases h1 : c.toNat < 48
    · rw [cT (decide_eq_true (by omega)), stop, show dig c = false by unfold dig; simp; omega]; rfl
    · rw [cF (decide_eq_false (by omega))]
      by_cases h2 : c.toNat > 57
      · rw [decide_eq_true (show (c.toNat : Int) > 57 by omega), stop, show dig c = false by unfold dig; simp; omega]; rfl
      · rw [decide_eq_false (show ¬ (c.toNat : Int) > 57 by omega), next, show dig c = true by unfold dig; simp; omega]; rfl
theorem xOdd (s : List UInt8) (hs : s.length ≤ 9223372036854775807) : dec_odd s = some (!good s) := (dec_odd_eq s).trans (xOdd1 s hs s.length 0 (Nat.zero_add _))
theorem dig_get {s : List UInt8} (h : good s = true) {i : Nat} (hi : i < s.length) : dig (s.getD i 0) = true := by
  rw [← good_get hi]
  exact List.all_eq_true.1 h _ (List.getElem_mem hi)
theorem dv_take {s : List UInt8} {i : Nat} (h : i < s.length) : dv (s.take (i + 1)) = dv (s.take i) * 10 + ((s.getD i 0).toNat - 48) := by
  rw [List.take_add_one, List.getElem?_eq_getElem h, good_get h]
  simp only [Option.toList_some, dv_snoc]
theorem good_take {s : List UInt8} (h : good s = true) (i : Nat) : good (s.take i) = true := List.all_eq_true.2 fun x hx => List.all_eq_true.1 h x (List.mem_of_mem_take hx)
theorem good_dropT {s : List UInt8} (h : good s = true) (i : Nat) : good (s.drop i) = true := List.all_eq_true.2 fun x hx => List.all_eq_true.1 h x (List.mem_of_mem_drop hx)
/-- The digits of a piece. -/
theorem xParse3 (s : List UInt8) (A : Nat) (c : List UInt8) (hc : good c = true) (hcl : c.length ≤ 9) (hA : (nat A).length ≤ 100000) (k : Nat) (hk : k ≤ s.length) : ∀ (m i : Nat), i + m = c.length →
    dec_Parse_3 s (nat A) (k : Int) ((dv (c.take i) : Nat) : Int) ((10 ^ i : Nat) : Int) (c.map fun b => (b.toNat : Int)) (c.length : Int) (i : Int) = dec_Parse_2 (s.drop k) (nat (A * 10 ^ c.length + dv c))
  | 0, i, h => by
    obtain rfl : i = c.length := by omega
    have hp : 10 ^ c.length ≤ 10 ^ 9 := Nat.pow_le_pow_right (by decide) hcl
    have hd := dv_lt c hc
    have lp : (nat (10 ^ c.length)).length ≤ 4 := nat_length_le (by omega)
    have ld : (nat (dv c)).length ≤ 4 := nat_length_le (by omega)
    have lm : (nat (A * 10 ^ c.length)).length ≤ 1000000 := by
      have h1 := val_lt (nat A)
      have h2 := val_lt (nat (10 ^ c.length))
      rw [val_nat] at h1 h2
      have : A * 10 ^ c.length < 256 ^ ((nat A).length + (nat (10 ^ c.length)).length) := by rw [Nat.pow_add]; exact Nat.mul_lt_mul'' h1 h2
      exact Nat.le_trans (nat_length_le this) (by omega)
    rw [dec_Parse_3_eq, cF (decide_eq_false (by omega)), xOf _ (by omega), Option.bind_some, xMul _ _ (by omega) (by omega), Option.bind_some, List.take_length, xOf _ (by omega), Option.bind_some, val_nat, val_nat, xAdd _ _ (by omega) (by omega), Option.bind_some, val_nat, val_nat,
      cT (P.inC hk), Int.toNat_natCast]
  | m + 1, i, h => by
    have hi : i < c.length := by omega
    have hg : (c.map fun b => (b.toNat : Int)).getD (i : Int).toNat 0 = ((c.getD i 0).toNat : Int) := by simp [List.getD, hi]
    have hd := dig_le (dig_get hc hi)
    have hv := dv_lt (c.take i) (good_take hc i)
    have hp : 10 ^ (c.take i).length ≤ 10 ^ 8 := Nat.pow_le_pow_right (by decide) (by simp; omega)
    have hp2 : 10 ^ i ≤ 10 ^ 8 := Nat.pow_le_pow_right (by decide) (by omega)
    have e := dv_take hi
    have := xParse3 s A c hc hcl hA k hk m (i + 1) (by omega)
    rw [dec_Parse_3_eq, cT (decide_eq_true (by omega)), cT (by rw [List.length_map]; exact ix hi), hg]
    generalize c.getD i 0 = ch at hd e
    have e1 : IntKind.u64.wrap (IntKind.u64.wrap (((dv (c.take i) : Nat) : Int) * 10) + IntKind.u64.wrap (IntKind.u8.wrap ((ch.toNat : Int) - 48))) = ((dv (c.take (i + 1)) : Nat) : Int) := by
      rw [e]
      generalize dv (c.take i) = V at hv
      rw [wrapU8 (by omega) (by omega), wrapU64 (n := (V : Int) * 10) (by omega) (by omega), wrapU64 (n := (ch.toNat : Int) - 48) (by omega) (by omega), wrapU64 (by omega) (by omega)]
      omega
    have e2 : IntKind.u64.wrap (((10 ^ i : Nat) : Int) * 10) = ((10 ^ (i + 1) : Nat) : Int) := by
      rw [Nat.pow_succ]
      generalize 10 ^ i = X at hp2
      rw [wrapU64 (by omega) (by omega)]; omega
    rw [e1, e2, wS (by omega)]
    exact this
theorem xParse2 : ∀ (f : Nat) (s : List UInt8) (A j : Nat), s.length ≤ f → good s = true → A < 10 ^ j → j + s.length ≤ 400 → dec_Parse_2 s (nat A) = some (nat (A * 10 ^ s.length + dv s), 0)
  | f, s, A, j, hf, hg, hA, hj => by
    by_cases h0 : s.length = 0
    · obtain rfl : s = [] := List.eq_nil_of_length_eq_zero h0
      rw [dec_Parse_2_eq, cF (decide_eq_false (by simp)), dv_nil]; simp
    · match f with
      | 0 => omega
      | f + 1 =>
        have lA := nat_ten_len hA
        have hk : min (9 : Int) (s.length : Int) = ((min 9 s.length : Nat) : Int) := by omega
        have hkl : min 9 s.length ≤ s.length := by omega
        have hcl : (s.take (min 9 s.length)).length = min 9 s.length := by simp
        have h3 := xParse3 s A (s.take (min 9 s.length)) (good_take hg _) (by omega) (by omega) (min 9 s.length) hkl _ 0 (Nat.zero_add _)
        have h3' : dec_Parse_3 s (nat A) ((min 9 s.length : Nat) : Int) 0 1 ((s.take (min 9 s.length)).map fun b => (b.toNat : Int)) ((s.take (min 9 s.length)).length : Int) 0 = _ := h3
        have hsplit : dv s = dv (s.take (min 9 s.length)) * 10 ^ (s.drop (min 9 s.length)).length + dv (s.drop (min 9 s.length)) := by rw [← dv_append, List.take_append_drop]
        have hdl := dv_lt (s.take (min 9 s.length)) (good_take hg _)
        rw [hcl] at hdl
        have hA2 : A * 10 ^ (min 9 s.length) + dv (s.take (min 9 s.length)) < 10 ^ (j + min 9 s.length) := by
          rw [Nat.pow_add]
          have : (A + 1) * 10 ^ (min 9 s.length) ≤ 10 ^ j * 10 ^ (min 9 s.length) := Nat.mul_le_mul_right _ hA
          rw [Nat.succ_mul] at this
          omega
        have hlen : s.length = min 9 s.length + (s.drop (min 9 s.length)).length := by simp; omega
        have hpow : 10 ^ s.length = 10 ^ (min 9 s.length) * 10 ^ (s.drop (min 9 s.length)).length := by rw [← Nat.pow_add, ← hlen]
        rw [dec_Parse_2_eq, cT (decide_eq_true (by omega)), hk, cT (P.inC hkl), Int.toNat_natCast, List.length_map, h3', hcl,
          xParse2 f (s.drop (min 9 s.length)) _ (j + min 9 s.length) (by simp; omega) (good_dropT hg _) hA2 (by omega), hsplit, hpow]
        generalize 10 ^ (min 9 s.length) = X
        generalize 10 ^ (s.drop (min 9 s.length)).length = Y
        rw [Nat.add_mul, Nat.mul_assoc, Nat.add_assoc]
theorem xParse (s : List UInt8) (hs : s.length ≤ 9223372036854775807) : dec_Parse s = some (parseV s) := by
  rw [dec_Parse_eq, parseV]
  by_cases h0 : s = []
  · subst h0; rw [cT (by rfl), dec_Parse_1_eq, cond_true, if_pos (.inl rfl)]
  · rw [cF (decide_eq_false h0), xOdd s hs, Option.bind_some, dec_Parse_1_eq]
    by_cases hg : good s = true
    · rw [hg, show (!true) = false from rfl, cond_false, if_neg (by simp [h0])]
      by_cases hl : s.length > 400
      · rw [cT (decide_eq_true (by omega)), if_pos hl]
      · have := xParse2 s.length s 0 0 (Nat.le_refl _) hg (by simp) (by omega)
        rw [nat_zero, Nat.zero_mul, Nat.zero_add] at this
        rw [cF (decide_eq_false (by omega)), if_neg hl, this]
    · have hg : good s = false := by simpa using hg
      rw [hg, show (!false) = true from rfl, cond_true, if_pos (.inr rfl)]
end Go.Proofs.YtenebjaipfcflaaDoor.D

/- Whole numbers and fractions: plain Lean; the program's and the reference's. -/
set_option linter.unusedVariables false
set_option linter.unusedSimpArgs false
namespace Go.Proofs.YtenebjaipfcflaaDoor.D
open Go Go.Proofs.YtenebjaipfcflaaDoor.K
open Go.Proofs.YtenebjaipfcflaaDoor.P (nat val divmod small val_nat nat_zero nat_eq_nil nat_val_length nat_length_le len_mono val_lt nat_inj sgnv powR powV blen blen_bounds blen_zero nat_one)
open Go.Proofs.YtenebjaipfcflaaDoor.Q (ok1 ok3 cmpQ gcdQ powQ bitsQ)
abbrev Wh := Bool × List UInt8
abbrev Rt := Bool × List UInt8 × List UInt8
theorem ok3_of {s : List UInt8} (h : s.length ≤ 1000) : ok3 s = true := Nat.ble_eq_true_of_le h
theorem gcdQ_eq (a b : List UInt8) (ha : a.length ≤ 1000) (hb : b.length ≤ 1000) : gcdQ (a, b) = some (nat (Nat.gcd (val a) (val b))) := by
  unfold gcdQ
  simp only
  rw [ok3_of ha, ok3_of hb]; rfl
theorem xGcd (a b : List UInt8) (ha : a.length ≤ 1000) (hb : b.length ≤ 1000) : divide_Gcd a b = some (nat (Nat.gcd (val a) (val b))) := (top_call ..).trans (gcdQ_eq a b ha hb)
theorem powQ_eq (a : List UInt8) (n : Int) (ha : a.length ≤ 1000) (hn : n ≤ 9000) : powQ (a, n) = some (powR (val a) n) := by
  unfold powQ
  simp only
  rw [ok3_of ha, decide_eq_true hn]; rfl
theorem xPow (a : List UInt8) (n : Int) (ha : a.length ≤ 1000) (hn : n ≤ 9000) : divide_Pow a n = some (powR (val a) n) := (top_call ..).trans (powQ_eq a n ha hn)
theorem nilD (n : Nat) : decide (nat n = []) = decide (n = 0) := decide_eq_decide.2 nat_eq_nil
/-! ### whole numbers -/
def mkW (s : Bool) (n : Nat) : Wh := (s && !decide (n = 0), nat n)
theorem xWMake (s : Bool) (m : List UInt8) (h : m.length ≤ 1000000000) : whole_Make s m = some (mkW s (val m)) := by
  rw [whole_Make_eq, xTrim m h, Option.bind_some, mkW, nilD]
  cases s <;> rfl
end Go.Proofs.YtenebjaipfcflaaDoor.D
