/- Division: digits shifted, shifted back, and a digit that is guessed. -/
import Derived.Test.YtcdcijhfjiahkaaDoorRPD
set_option linter.unusedVariables false
set_option linter.unusedSimpArgs false
namespace Go.Proofs.YtcdcijhfjiahkaaDoorR.P
open Go Go.Proofs.YtcdcijhfjiahkaaDoorR.K Go.Proofs.YtcdcijhfjiahkaaDoorR.C
theorem bits_or_comm (k : IntKind) (x y : Int) : Go.bits .or k x y = Go.bits .or k y x := by simp only [Go.bits, BitVec.or_comm]
theorem W_digit {B : Nat} (hB : 0 < B) {l : List Int} (ho : Ok B l) : ∀ i, (l.getD i 0).toNat = W B l / B ^ i % B := by
  induction l with
  | nil => intro i; simp [W]
  | cons a l ih =>
    intro i
    have ha := ho a (List.mem_cons_self ..)
    cases i with
    | zero => simp only [List.getD_cons_zero, W, Nat.pow_zero, Nat.div_one]; rw [Nat.add_mul_mod_self_left, Nat.mod_eq_of_lt (by omega)]
    | succ i => rw [List.getD_cons_succ, ih (fun x hx => ho x (List.mem_cons_of_mem _ hx)) i, W, Nat.pow_succ', ← Nat.div_div_eq_div_mul, Nat.add_mul_div_left _ _ hB, Nat.div_eq_of_lt (a := a.toNat) (by omega), Nat.zero_add]
theorem tkset (out : List Int) (i : Nat) (v : Int) : (out.set i v).take i = out.take i := by rw [List.take_set, List.set_eq_of_length_le (by simp; omega)]
theorem W_tkset (B : Nat) (out : List Int) (i v : Nat) (h : i < out.length) : W B ((out.set i (v : Int)).take (i + 1)) = W B (out.take i) + B ^ i * v := by
  rw [W_take, tkset, getD_set_self _ _ _ h]; rfl
theorem shift_step (P w c u y s v c' B : Nat) (h : w + P * c = u * s) (hv : y * s + c = B * c' + v) : w + P * v + P * B * c' = (u + P * y) * s := by
  have : P * (y * s + c) = P * (B * c' + v) := by rw [hv]
  grind
theorem pw64 (n : Nat) (h : n ≤ 64) : (2 : Int) ^ min (n : Int).toNat IntKind.u64.bits = ((2 ^ n : Nat) : Int) := by
  rw [Int.toNat_natCast, Nat.min_eq_left (by simpa [IntKind.bits] using h)]; simp
theorem divShift1 (l : List Int) (ho : Ok 4294967296 l) (hl : l.length ≤ 1000000000) (s : Nat) (hs : s < 32) : ∀ (m i c : Nat) (out : List Int), i + m = l.length → out.length = l.length + 1 → Ok 4294967296 out → c < 2 ^ s →
    W 4294967296 (out.take i) + 4294967296 ^ i * c = W 4294967296 (l.take i) * 2 ^ s → ∃ r, divide_limbs_shifted_1 l (s : Int) (c : Int) l (l.length : Int) (i : Int) out = some r ∧ r.length = l.length + 1 ∧ Ok 4294967296 r ∧ W 4294967296 r = W 4294967296 l * 2 ^ s
  | 0, i, c, out, hi, hol, hoo, hc, hw => by
    obtain rfl : i = l.length := by omega
    have hp : 2 ^ s ≤ 2 ^ 31 := Nat.pow_le_pow_right (by decide) (by omega)
    refine ⟨out.set l.length (c : Int), ?_, by simp [hol], hoo.set _ (by omega) (by omega), ?_⟩
    · rw [divide_limbs_shifted_1_eq, cF (decide_eq_false (by omega)), cT (ix (by omega)), Int.toNat_natCast, wrapU32 (by omega) (by omega)]
    · rw [← W_all 4294967296 (out.set l.length (c : Int)) (l.length + 1) (by simp [hol]), W_tkset _ _ _ _ (by omega), hw, List.take_length]
  | m + 1, i, c, out, hi, hol, hoo, hc, hw => by
    have hp : 2 ^ s ≤ 2 ^ 31 := Nat.pow_le_pow_right (by decide) (by omega)
    have hx := ho.getD (by decide) i
    have n0 : l.getD i 0 = ((l.getD i 0).toNat : Int) := by omega
    have hpw := pw64 s (by omega)
    have hmod : (((2 ^ s : Nat) : Int)) = 2 ^ s := by simp
    generalize hy : (l.getD i 0).toNat = y at n0
    have hys : y * 2 ^ s ≤ 4294967295 * 2 ^ s := Nat.mul_le_mul_right _ (by omega)
    have e1 : bitop .or .u64 (IntKind.u64.wrap ((IntKind.u64.wrap (l.getD i 0)) * 2 ^ min (s : Int).toNat IntKind.u64.bits)) (c : Int) = ((y * 2 ^ s + c : Nat) : Int) := by
      rw [n0, wrapU64 (n := (y : Int)) (by omega) (by omega), hpw, ← Int.natCast_mul, wrapU64 (by omega) (by omega), or_u64 _ _ s (by omega) (by rw [← hmod, Int.natCast_mul]; exact Int.mul_emod_left ..) (by omega) (by omega) (by rw [← hmod]; omega) (by omega)]
      omega
    obtain ⟨r, h, hr⟩ := divShift1 l ho hl s hs m (i + 1) ((y * 2 ^ s + c) / 4294967296) (out.set i (((y * 2 ^ s + c) % 4294967296 : Nat) : Int)) (by omega) (by simp [hol]) (hoo.set _ (by omega) (by omega)) (by omega) (by
      rw [W_tkset _ _ _ _ (by omega), W_take, hy, Nat.pow_succ]
      exact shift_step (4294967296 ^ i) _ c _ y (2 ^ s) ((y * 2 ^ s + c) % 4294967296) ((y * 2 ^ s + c) / 4294967296) 4294967296 hw (by omega))
    refine ⟨r, ?_, hr⟩
    rw [divide_limbs_shifted_1_eq, cT (decide_eq_true (by omega)), cT (ix (by omega)), cT (decide_eq_true (by omega)), cT (ix (by omega)), cT (decide_eq_true (by decide)), Int.toNat_natCast, e1, p32, fd (by omega), wS (by omega), mod_u32,
      show ((y * 2 ^ s + c : Nat) : Int) / 4294967296 = (((y * 2 ^ s + c) / 4294967296 : Nat) : Int) by omega, show ((y * 2 ^ s + c : Nat) : Int) % 4294967296 = (((y * 2 ^ s + c) % 4294967296 : Nat) : Int) by omega]
    exact h
theorem divShift (l : List Int) (ho : Ok 4294967296 l) (hl : l.length ≤ 1000000000) (s : Nat) (hs : s < 32) : ∃ r, divide_limbs_shifted l (s : Int) = some r ∧ r.length = l.length + 1 ∧ Ok 4294967296 r ∧ W 4294967296 r = W 4294967296 l * 2 ^ s := by
  obtain ⟨r, h, hr⟩ := divShift1 l ho hl s hs l.length 0 0 (List.replicate (l.length + 1) 0) (Nat.zero_add _) (by simp) (Ok.zeros (by decide) _) (Nat.two_pow_pos s) (by simp [W])
  refine ⟨r, ?_, hr⟩
  rw [divide_limbs_shifted_eq, wS (by omega), cT (by simp; omega), Int.toNat_natCast]
  exact h
theorem back_digit (T s B t : Nat) (hs : s ≤ 32) (hB : B = 4294967296) : (T % (B * B)) / 2 ^ s % B = T / 2 ^ s % B := by
  have h1 := Nat.div_add_mod T (B * B)
  have h2 : B = 2 ^ s * 2 ^ (32 - s) := by rw [← Nat.pow_add, show s + (32 - s) = 32 by omega, hB]
  generalize T % (B * B) = x at *
  generalize T / (B * B) = t at *
  subst h1
  have : B * B * t + x = x + 2 ^ s * (B * (2 ^ (32 - s) * t)) := by
    have e : B * B * t = B * (2 ^ s * 2 ^ (32 - s)) * t := by rw [← h2]
    rw [e]; grind
  rw [this, Nat.add_mul_div_left _ _ (Nat.two_pow_pos s), Nat.add_mul_mod_self_left]
theorem divBack1 (l : List Int) (ho : Ok 4294967296 l) (hl : l.length ≤ 1000000000) (s : Nat) (hs : s < 32) : ∀ (m i : Nat) (out : List Int), i + m = l.length → out.length = l.length → Ok 4294967296 out →
    W 4294967296 (out.take i) = W 4294967296 l / 2 ^ s % 4294967296 ^ i → ∃ r, divide_limbs_back_1 l (s : Int) (l.length : Int) (i : Int) out = some r ∧ r.length = l.length ∧ Ok 4294967296 r ∧ W 4294967296 r = W 4294967296 l / 2 ^ s
  | 0, i, out, hi, hol, hoo, hw => by
    obtain rfl : i = l.length := by omega
    refine ⟨out, by rw [divide_limbs_back_1_eq, cF (decide_eq_false (by omega))], hol, hoo, ?_⟩
    rw [W_all _ _ _ (by omega), Nat.mod_eq_of_lt (Nat.lt_of_le_of_lt (Nat.div_le_self _ _) (W_lt ho))] at hw
    exact hw
  | m + 1, i, out, hi, hol, hoo, hw => by
    have hx := ho.getD (by decide) i
    have hx1 := ho.getD (by decide) (i + 1)
    have d0 := W_digit (by decide) ho i
    have d1 := W_digit (by decide) ho (i + 1)
    have n0 : l.getD i 0 = ((l.getD i 0).toNat : Int) := by omega
    have n1 : l.getD (i + 1) 0 = ((l.getD (i + 1) 0).toNat : Int) := by omega
    generalize hT : W 4294967296 l / 4294967296 ^ i = T at d0
    have hT1 : W 4294967296 l / 4294967296 ^ (i + 1) = T / 4294967296 := by rw [← hT, Nat.pow_succ, Nat.div_div_eq_div_mul]
    rw [hT1] at d1
    have hx2 : T % (4294967296 * 4294967296) = T % 4294967296 + 4294967296 * (T / 4294967296 % 4294967296) := Nat.mod_mul
    have hp : 1 ≤ 2 ^ s := Nat.one_le_two_pow
    have hpw := pw64 s (by omega)
    have fin : ∃ r, divide_limbs_back_2 l (s : Int) (i : Int) ((T % (4294967296 * 4294967296) : Nat) : Int) (l.length : Int) (i : Int) out = some r ∧ r.length = l.length ∧ Ok 4294967296 r ∧ W 4294967296 r = W 4294967296 l / 2 ^ s := by
      have hb := back_digit T s 4294967296 0 (by omega) rfl
      have hle : T % (4294967296 * 4294967296) / 2 ^ s ≤ T % (4294967296 * 4294967296) := Nat.div_le_self _ _
      obtain ⟨r, h, hr⟩ := divBack1 l ho hl s hs m (i + 1) (out.set i ((T / 2 ^ s % 4294967296 : Nat) : Int)) (by omega) (by simp [hol]) (hoo.set _ (by omega) (by omega)) (by
        rw [W_tkset _ _ _ _ (by omega), hw, Nat.mod_pow_succ, Nat.div_div_eq_div_mul (W 4294967296 l), Nat.mul_comm (2 ^ s), ← Nat.div_div_eq_div_mul, hT])
      refine ⟨r, ?_, hr⟩
      rw [divide_limbs_back_2_eq, cT (decide_eq_true (by omega)), cT (ix (by omega)), hpw, fd (by omega), ← Int.natCast_ediv, Int.toNat_natCast, mod_u32, wS (by omega), show ((T % (4294967296 * 4294967296) / 2 ^ s : Nat) : Int) % 4294967296 = ((T / 2 ^ s % 4294967296 : Nat) : Int) by omega]
      exact h
    obtain ⟨r, h, hr⟩ := fin
    refine ⟨r, ?_, hr⟩
    rw [divide_limbs_back_1_eq, cT (decide_eq_true (by omega)), cT (ix (by omega)), wS (by omega)]
    by_cases hlast : i + 1 < l.length
    · rw [cT (decide_eq_true (by omega)), cT (ix hlast), cT (decide_eq_true (by decide)), Int.toNat_natCast, Int.toNat_natCast, p32]
      have e : bitop .or .u64 (IntKind.u64.wrap (l.getD i 0)) (IntKind.u64.wrap (IntKind.u64.wrap (l.getD (i + 1) 0) * 4294967296)) = ((T % (4294967296 * 4294967296) : Nat) : Int) := by
        rw [bitop_or, bits_or_comm, ← bitop_or, n0, n1, wrapU64 (n := (((l.getD i 0).toNat : Nat) : Int)) (by omega) (by omega), wrapU64 (n := (((l.getD (i + 1) 0).toNat : Nat) : Int)) (by omega) (by omega), wrapU64 (by omega) (by omega), or_u64 _ _ 32 (by omega) (by omega) (by omega) (by omega) (by omega) (by omega)]
        omega
      rw [e]
      exact h
    · have hz : T / 4294967296 = 0 := by rw [← hT1]; exact Nat.div_eq_of_lt (by have := W_lt ho; rwa [show l.length = i + 1 by omega] at this)
      rw [cF (decide_eq_false (by omega)), Int.toNat_natCast, n0, wrapU64 (by omega) (by omega), show ((l.getD i 0).toNat : Int) = ((T % (4294967296 * 4294967296) : Nat) : Int) by omega]
      exact h
theorem divBack (l : List Int) (ho : Ok 4294967296 l) (hl : l.length ≤ 1000000000) (s : Nat) (hs : s < 32) : ∃ r, divide_limbs_back l (s : Int) = some r ∧ r.length = l.length ∧ Ok 4294967296 r ∧ W 4294967296 r = W 4294967296 l / 2 ^ s := by
  obtain ⟨r, h, hr⟩ := divBack1 l ho hl s hs l.length 0 (List.replicate l.length 0) (Nat.zero_add _) (by simp) (Ok.zeros (by decide) _) (by simp [W, Nat.mod_one])
  refine ⟨r, ?_, hr⟩
  rw [divide_limbs_back_eq, cT (by simp; omega), Int.toNat_natCast]
  exact h
/-! ### a digit that is guessed -/
theorem guess1 (third high low x : Nat) (h3 : third < 4294967296) (hh : high < 4294967296) (hh1 : 2147483648 ≤ high) (hlow : low < 4294967296) (hx : x < high * 4294967296 + 4294967296) : ∀ (q r : Nat), q * high + r = x → r < 4294967296 →
    min 4294967295 ((x * 4294967296 + third) / (high * 4294967296 + low)) ≤ q → q ≤ 4294967297 → divide_guess_1 (third : Int) (high : Int) (low : Int) (q : Int) (r : Int) = some ((min 4294967295 ((x * 4294967296 + third) / (high * 4294967296 + low)) : Nat) : Int)
  | q, r, hq, hr, hm, hb => by
    have hv : 0 < high * 4294967296 + low := by omega
    have le1 : ∀ p : Nat, p ≤ (x * 4294967296 + third) / (high * 4294967296 + low) ↔ p * high * 4294967296 + p * low ≤ x * 4294967296 + third := fun p => by
      rw [Nat.le_div_iff_mul_le hv, Nat.mul_add, Nat.mul_assoc]
    generalize hM : (x * 4294967296 + third) / (high * 4294967296 + low) = M at *
    have hor : bitop .or .u64 (IntKind.u64.wrap ((r : Int) * 2 ^ min 32 IntKind.u64.bits)) (third : Int) = ((r * 4294967296 + third : Nat) : Int) := by
      rw [p32, wrapU64 (by omega) (by omega), or_u64 _ _ 32 (by omega) (by omega) (by omega) (by omega) (by omega) (by omega)]; omega
    have stay : q ≤ M → q ≤ 4294967295 → (some (q : Int)) = some ((min 4294967295 M : Nat) : Int) := fun h1 h2 => by congr 1; omega
    have hqM := le1 q
    have go : (4294967295 < q ∨ M < q) → divide_guess_2 (third : Int) (high : Int) (low : Int) (q : Int) (r : Int) true = some ((min 4294967295 M : Nat) : Int) := by
      intro ht
      match q with
      | 0 => omega
      | q + 1 =>
        have ha : IntKind.u64.wrap ((r : Int) + (high : Int)) = ((r + high : Nat) : Int) := by rw [wrapU64 (by omega) (by omega)]; omega
        have hs : IntKind.u64.wrap (((q + 1 : Nat) : Int) - 1) = (q : Int) := by rw [wrapU64 (by omega) (by omega)]; omega
        have hq1 : q * high + (r + high) = x := by rw [Nat.succ_mul] at hq; omega
        rw [divide_guess_2_eq, cond_true, cT (decide_eq_true (by decide)), ha, hs, p32, fd (by omega)]
        by_cases hB : 4294967296 ≤ r + high
        · rw [cT (decide_eq_true (by omega))]
          have hq2 : q ≤ 4294967295 := by
            rcases Nat.lt_or_ge 4294967295 q with h | h
            · have := Nat.mul_le_mul_right high (show 4294967296 ≤ q from h)
              omega
            · exact h
          have h4 : q * low ≤ 4294967295 * low := Nat.mul_le_mul_right _ hq2
          have := (le1 q).2 (by omega)
          congr 1
          omega
        · rw [cF (decide_eq_false (by omega))]
          rw [← hM]
          exact guess1 third high low x h3 hh hh1 hlow hx q (r + high) hq1 (by omega) (by rw [hM]; omega) (by omega)
    rw [divide_guess_1_eq, cT (decide_eq_true (by decide)), p32, fd (by omega)]
    by_cases hbig : 4294967296 ≤ q
    · rw [cT (decide_eq_true (by omega))]
      exact go (.inl (by omega))
    · have hql : q * low ≤ 4294967295 * low := Nat.mul_le_mul_right _ (by omega)
      rw [cF (decide_eq_false (by omega)), cT (decide_eq_true (by decide)), ← p32, hor, ← Int.natCast_mul, wrapU64 (by omega) (by omega)]
      by_cases ht : r * 4294967296 + third < q * low
      · rw [decide_eq_true (show ((q * low : Nat) : Int) > ((r * 4294967296 + third : Nat) : Int) by omega)]
        exact go (.inr (by
          rcases Nat.lt_or_ge M q with h | h
          · exact h
          · have := hqM.1 h; omega))
      · rw [decide_eq_false (show ¬ ((q * low : Nat) : Int) > ((r * 4294967296 + third : Nat) : Int) by omega), divide_guess_2_eq, cond_false]
        exact stay (hqM.2 (by omega)) (by omega)
theorem divGuess (top next third high low : Nat) (h1 : top ≤ high) (h2 : next < 4294967296) (h3 : third < 4294967296) (hh : high < 4294967296) (hh1 : 2147483648 ≤ high) (hlow : low < 4294967296) :
    divide_guess (top : Int) (next : Int) (third : Int) (high : Int) (low : Int) = some ((min 4294967295 (((top * 4294967296 + next) * 4294967296 + third) / (high * 4294967296 + low)) : Nat) : Int) := by
  have hor : bitop .or .u64 (IntKind.u64.wrap ((top : Int) * 2 ^ min 32 IntKind.u64.bits)) (next : Int) = ((top * 4294967296 + next : Nat) : Int) := by
    rw [p32, wrapU64 (by omega) (by omega), or_u64 _ _ 32 (by omega) (by omega) (by omega) (by omega) (by omega) (by omega)]; omega
  have hx : top * 4294967296 + next < high * 4294967296 + 4294967296 := by omega
  obtain ⟨x, hxe⟩ : ∃ x, x = top * 4294967296 + next := ⟨_, rfl⟩
  rw [← hxe] at hor hx ⊢
  have hd := Nat.div_add_mod x high
  have hm := Nat.mod_lt x (show 0 < high by omega)
  have hq : x / high < 4294967298 := (Nat.div_lt_iff_lt_mul (by omega)).2 (by omega)
  have hM : (x * 4294967296 + third) / (high * 4294967296 + low) ≤ x / high := by
    refine Nat.lt_succ_iff.1 ((Nat.div_lt_iff_lt_mul (by omega)).2 ?_)
    rw [Nat.succ_mul, Nat.mul_add, ← Nat.mul_assoc, Nat.mul_comm (x / high) high]
    omega
  have hz : (!decide ((high : Int) = 0)) = true := by rw [decide_eq_false (by omega)]; rfl
  have e1 : (x : Int).tdiv (high : Int) = ((x / high : Nat) : Int) := by rw [Int.tdiv_eq_ediv_of_nonneg (by omega), ← Int.natCast_ediv]
  have e2 : (x : Int).tmod (high : Int) = ((x % high : Nat) : Int) := by rw [Int.tmod_eq_emod_of_nonneg (by omega), ← Int.natCast_emod]
  have hg := guess1 third high low x h3 hh hh1 hlow hx (x / high) (x % high) (by rw [Nat.mul_comm]; exact hd) (Nat.lt_trans hm hh) (Nat.le_trans (Nat.min_le_right ..) hM) (Nat.le_of_lt_succ hq)
  rw [divide_guess_eq, cT (decide_eq_true (by decide)), cT hz, cT hz, hor, e1, e2]
  generalize x / high = q at hg hq
  rw [wrapU64 (by omega) (by omega)]
  exact hg
theorem knuth (P u3 U' v2 V' : Nat) (hU : U' < P) (hV : V' < P) (hlt : u3 * P + U' < (v2 * P + V') * 4294967296) (hv : 4294967296 ≤ v2) :
    (u3 * P + U') / (v2 * P + V') ≤ min 4294967295 (u3 / v2) ∧ min 4294967295 (u3 / v2) ≤ (u3 * P + U') / (v2 * P + V') + 1 := by
  have hP : 0 < P := by omega
  have hpos : 0 < v2 * P + V' := Nat.lt_of_lt_of_le (Nat.mul_pos (by omega) hP) (Nat.le_add_right ..)
  have hQ := Nat.div_mul_le_self (u3 * P + U') (v2 * P + V')
  have hQ2 : (u3 * P + U') / (v2 * P + V') < 4294967296 := (Nat.div_lt_iff_lt_mul hpos).2 (by omega)
  constructor
  · have : (u3 * P + U') / (v2 * P + V') ≤ u3 / v2 := by
      rw [Nat.le_div_iff_mul_le (by omega)]
      generalize (u3 * P + U') / (v2 * P + V') = Q at *
      have h1 : Q * v2 * P < (u3 + 1) * P := by rw [Nat.mul_add, ← Nat.mul_assoc] at hQ; rw [Nat.succ_mul]; omega
      exact Nat.lt_succ_iff.1 (Nat.lt_of_mul_lt_mul_right h1)
    omega
  · cases hq : min 4294967295 (u3 / v2) with
    | zero => exact Nat.zero_le _
    | succ p =>
      have h1 : (p + 1) * v2 ≤ u3 := (Nat.le_div_iff_mul_le (by omega)).1 (by omega)
      have : p ≤ (u3 * P + U') / (v2 * P + V') := by
        rw [Nat.le_div_iff_mul_le hpos, Nat.mul_add, ← Nat.mul_assoc]
        have h2 : p * V' ≤ p * P := Nat.mul_le_mul_left _ (by omega)
        have h3 : (p * v2 + p) * P ≤ u3 * P := Nat.mul_le_mul_right _ (by rw [Nat.succ_mul] at h1; omega)
        rw [Nat.add_mul] at h3
        omega
      exact Nat.succ_le_succ this
end Go.Proofs.YtcdcijhfjiahkaaDoorR.P
