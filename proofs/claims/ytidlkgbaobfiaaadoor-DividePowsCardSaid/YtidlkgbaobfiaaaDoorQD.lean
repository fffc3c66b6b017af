/- Roots: the program's, the reference's. -/
import Derived.Test.YtidlkgbaobfiaaaDoorQB
set_option linter.unusedVariables false
set_option linter.unusedSimpArgs false
namespace Go.Proofs.YtidlkgbaobfiaaaDoor.P
open Go Go.Proofs.YtidlkgbaobfiaaaDoor.K
def IsRoot (r A : Nat) : Prop := r * r ≤ A ∧ A < (r + 1) * (r + 1)
theorem IsRoot.le {r s A : Nat} (h : IsRoot r A) (h2 : IsRoot s A) : r ≤ s := by
  rcases Nat.lt_or_ge s r with hl | hl
  · have := Nat.mul_le_mul hl hl
    have := h.1
    have := h2.2
    simp only [Nat.succ_eq_add_one] at *
    omega
  · exact hl
theorem IsRoot.eq {r s A : Nat} (h : IsRoot r A) (h2 : IsRoot s A) : r = s := Nat.le_antisymm (h.le h2) (h2.le h)
theorem four_le (x p : Nat) : 4 * (x * p) ≤ (x + p) * (x + p) := by
  rcases Nat.le_total x p with h | h
  · obtain ⟨d, rfl⟩ : ∃ d, p = x + d := ⟨p - x, by omega⟩
    have : (x + (x + d)) * (x + (x + d)) = 4 * (x * (x + d)) + d * d := by grind
    omega
  · obtain ⟨d, rfl⟩ : ∃ d, x = p + d := ⟨x - p, by omega⟩
    have : (p + d + p) * (p + d + p) = 4 * ((p + d) * p) + d * d := by grind
    omega
theorem newton (A x : Nat) (hx : 0 < x) : A < ((x + A / x) / 2 + 1) * ((x + A / x) / 2 + 1) := by
  have h1 : A < x * (A / x + 1) := by
    have := Nat.div_add_mod A x
    have := Nat.mod_lt A hx
    rw [Nat.mul_succ]; omega
  generalize A / x = q at *
  obtain ⟨y, hy⟩ : ∃ y, (x + q) / 2 = y := ⟨_, rfl⟩
  rw [hy]
  have h2 : x + (q + 1) ≤ 2 * (y + 1) := by omega
  have h3 := four_le x (q + 1)
  have h4 := Nat.mul_le_mul h2 h2
  have h5 : 2 * (y + 1) * (2 * (y + 1)) = 4 * ((y + 1) * (y + 1)) := by grind
  omega
theorem add_len (x y : Nat) : (nat (x + y)).length ≤ max (nat x).length (nat y).length + 1 := by
  have h1 := val_lt (nat x)
  have h2 := val_lt (nat y)
  rw [val_nat] at h1 h2
  obtain ⟨m, hm⟩ : ∃ m, max (nat x).length (nat y).length = m := ⟨_, rfl⟩
  rw [hm]
  have h3 : 256 ^ (nat x).length ≤ 256 ^ m := Nat.pow_le_pow_right (by decide) (by omega)
  have h4 : 256 ^ (nat y).length ≤ 256 ^ m := Nat.pow_le_pow_right (by decide) (by omega)
  refine nat_length_le ?_
  rw [Nat.pow_succ]
  omega
theorem sgnv_le {a b : Nat} (h : a ≤ b) : sgnv a b ≤ 0 := by
  unfold sgnv
  by_cases h1 : a < b
  · rw [if_pos h1]; omega
  · rw [if_neg h1, if_pos (by omega)]; omega
theorem sgnv_gt {a b : Nat} (h : b < a) : sgnv a b > 0 := by
  unfold sgnv
  rw [if_neg (by omega), if_neg (by omega)]; omega
theorem divRoot1 (A : Nat) (hA : A ≠ 0) (lA : (nat A).length ≤ 10000000) : ∀ (n x : Nat), x ≤ n → A < (x + 1) * (x + 1) → (nat x).length ≤ 10000000 → ∃ r, divide_Root_1 (nat A) (nat x) = some (nat r) ∧ IsRoot r A
  | n, x, hxn, hlt, lx => by
    by_cases h0 : x = 0
    · subst h0; exfalso; omega
    · match n with
      | 0 => omega
      | n + 1 =>
        have lq : (nat (A / x)).length ≤ 10000000 := Nat.le_trans (len_mono (Nat.div_le_self _ _)) lA
        have ls : (nat (x + A / x)).length ≤ 100000000 := by
          have := add_len x (A / x)
          omega
        have hN := newton A x (by omega)
        have hsh := divShr (nat (x + A / x)) ls 1 (by decide)
        rw [val_nat, shrV, if_neg (by decide)] at hsh
        have e1 : (x + A / x) / 2 ^ (1 : Int).toNat = (x + A / x) / 2 := rfl
        rw [e1] at hsh
        have ly : (nat ((x + A / x) / 2)).length ≤ 100000000 := Nat.le_trans (len_mono (Nat.div_le_self _ _)) ls
        rw [divide_Root_1_eq, divDivMod _ _ (by omega) (by omega), Option.bind_some, val_nat, val_nat, divmod, if_neg h0]
        simp only
        rw [cF (by rfl), natAdd _ _ (by omega) (by omega), Option.bind_some, val_nat, val_nat, hsh, Option.bind_some, natCmp _ _ (by omega) (by omega), Option.bind_some, val_nat, val_nat]
        by_cases hy : (x + A / x) / 2 < x
        · rw [cF (decide_eq_false (by have := sgnv_neg.2 hy; omega))]
          exact divRoot1 A hA lA n ((x + A / x) / 2) (by omega) hN (Nat.le_trans (len_mono (Nat.le_of_lt hy)) lx)
        · have hs : ¬ sgnv ((x + A / x) / 2) x < 0 := fun h => hy (sgnv_neg.1 h)
          rw [cT (decide_eq_true (by omega))]
          refine ⟨x, rfl, (Nat.le_div_iff_mul_le (by omega)).1 ?_, hlt⟩
          generalize A / x = q at hy
          omega
theorem divRoot (a : List UInt8) (ha : a.length ≤ 100000) : ∃ r, divide_Root a = some (nat r) ∧ IsRoot r (val a) := by
  have la := nat_val_length a
  by_cases h0 : val a = 0
  · refine ⟨0, ?_, by rw [h0]; exact ⟨by omega, by omega⟩⟩
    rw [divide_Root_eq, natTrim, Option.bind_some, cT (decide_eq_true (nat_eq_nil.2 h0)), nat_zero]
  · have ew : IntKind.i64.wrap ((IntKind.i64.wrap (((nat (val a)).length : Int).tdiv 2)) + 1) = (((nat (val a)).length / 2 + 1 : Nat) : Int) := by
      rw [Int.tdiv_eq_ediv_of_nonneg (by omega), wrap64 (n := ((nat (val a)).length : Int) / 2) (by omega) (by omega), wrap64 (by omega) (by omega)]; omega
    have hz : (zeros ((nat (val a)).length / 2 + 1)).length = (nat (val a)).length / 2 + 1 := by simp [zeros]
    have hx : [1] ++ zeros ((nat (val a)).length / 2 + 1) = nat (1 * 256 ^ ((nat (val a)).length / 2 + 1)) := nat_pad (n := 1) (by decide) _
    have hxl : (nat (1 * 256 ^ ((nat (val a)).length / 2 + 1))).length ≤ 10000000 := by rw [← hx]; simp [zeros]; omega
    have hv := val_lt (nat (val a))
    rw [val_nat] at hv
    have hbig : 256 ^ (nat (val a)).length ≤ 1 * 256 ^ ((nat (val a)).length / 2 + 1) * (1 * 256 ^ ((nat (val a)).length / 2 + 1)) := by
      rw [Nat.one_mul, ← Nat.pow_add]
      exact Nat.pow_le_pow_right (by decide) (by omega)
    have hsq : 1 * 256 ^ ((nat (val a)).length / 2 + 1) * (1 * 256 ^ ((nat (val a)).length / 2 + 1)) ≤ (1 * 256 ^ ((nat (val a)).length / 2 + 1) + 1) * (1 * 256 ^ ((nat (val a)).length / 2 + 1) + 1) := Nat.mul_le_mul (Nat.le_succ _) (Nat.le_succ _)
    obtain ⟨r, e, hr⟩ := divRoot1 (val a) h0 (by omega) _ _ (Nat.le_refl (1 * 256 ^ ((nat (val a)).length / 2 + 1))) (by omega) hxl
    refine ⟨r, ?_, hr⟩
    rw [divide_Root_eq, natTrim, Option.bind_some, cF (decide_eq_false (fun e => h0 (nat_eq_nil.1 e))), cT (by rfl), ew, repeat0 _ (by omega), Option.bind_some, cT (Nat.ble_eq_true_of_le (by simp [zeros]; omega)), hx]
    exact e
/-! ### the reference -/
theorem refRoot3 (a r t : List UInt8) (i step left : Nat) (ha : a.length ≤ 100000) (hl : left ≤ 100000) : ∀ (m k : Nat) (p : List UInt8), k + m = 2 * left → p.length + m ≤ 1000000 →
    abacistref02_Root_3 a r (i : Int) (step : Int) t (left : Int) p (k : Int) = if val p * 256 ^ m ≤ val a then abacistref02_Root_4 a t (i : Int) (step : Int) else abacistref02_Root_4 a r (i : Int) (step : Int)
  | 0, k, p, hk, hp => by
    have ew : IntKind.i64.wrap (2 * (left : Int)) = ((2 * left : Nat) : Int) := by rw [wrap64 (by omega) (by omega)]; omega
    rw [abacistref02_Root_3_eq, ew, cF (decide_eq_false (by omega)), refCmp _ _ (by omega) (by omega), Option.bind_some, Nat.pow_zero, Nat.mul_one]
    by_cases h : val p ≤ val a
    · rw [if_pos h, cT (decide_eq_true (sgnv_le h))]
    · rw [if_neg h, cF (decide_eq_false (by have := sgnv_gt (Nat.lt_of_not_le h); omega))]
  | m + 1, k, p, hk, hp => by
    have ew : IntKind.i64.wrap (2 * (left : Int)) = ((2 * left : Nat) : Int) := by rw [wrap64 (by omega) (by omega)]; omega
    rw [abacistref02_Root_3_eq, ew, cT (decide_eq_true (by omega)), cT (Nat.ble_eq_true_of_le (by simp; omega)), wS (by omega), refRoot3 a r t i step left ha hl m (k + 1) (p ++ [0]) (by omega) (by simp; omega), val_snoc,
      show (val p * 256 + (0 : UInt8).toNat) * 256 ^ m = val p * 256 ^ (m + 1) by rw [Nat.pow_succ']; simp [Nat.mul_assoc]]
theorem refRoot2 (a : List UInt8) (ha : a.length ≤ 100000) (i left : Nat) (hil : i + 1 + left = (a.length + 1) / 2) : ∀ (j : Nat) (r : List UInt8), j ≤ 7 → r.length ≤ a.length + 2 + i → val r * val r ≤ val a / 256 ^ (2 * left) → val a / 256 ^ (2 * left) < (val r + 2 ^ (j + 1)) * (val r + 2 ^ (j + 1)) →
    ∃ r', abacistref02_Root_2 a r (i : Int) ((2 ^ j : Nat) : Int) = abacistref02_Root_1 a r' ((i + 1 : Nat) : Int) ∧ r'.length ≤ a.length + 2 + i ∧ IsRoot (val r') (val a / 256 ^ (2 * left)) := by
  have eh : IntKind.i64.wrap ((IntKind.i64.wrap ((a.length : Int) + 1)).tdiv 2) = (((a.length + 1) / 2 : Nat) : Int) := by
    rw [wS (by omega), Int.tdiv_eq_ediv_of_nonneg (by omega), wrap64 (by omega) (by omega)]; omega
  have el : IntKind.i64.wrap ((IntKind.i64.wrap ((IntKind.i64.wrap ((IntKind.i64.wrap ((a.length : Int) + 1)).tdiv 2)) - 1)) - (i : Int)) = (left : Int) := by
    rw [eh, wrap64 (n := (((a.length + 1) / 2 : Nat) : Int) - 1) (by omega) (by omega), wrap64 (by omega) (by omega)]; omega
  have step : ∀ (j : Nat) (r : List UInt8), j ≤ 7 → r.length ≤ a.length + 2 + i → val r * val r ≤ val a / 256 ^ (2 * left) → val a / 256 ^ (2 * left) < (val r + 2 ^ (j + 1)) * (val r + 2 ^ (j + 1)) →
      ∃ r1, abacistref02_Root_2 a r (i : Int) ((2 ^ j : Nat) : Int) = abacistref02_Root_4 a r1 (i : Int) ((2 ^ j : Nat) : Int) ∧ r1.length ≤ a.length + 2 + i ∧ val r1 * val r1 ≤ val a / 256 ^ (2 * left) ∧ val a / 256 ^ (2 * left) < (val r1 + 2 ^ j) * (val r1 + 2 ^ j) := by
    intro j r hj hrl h1 h2
    have hp : 2 ^ j ≤ 2 ^ 7 := Nat.pow_le_pow_right (by decide) hj
    have hp1 : 0 < 2 ^ j := Nat.two_pow_pos j
    have hr : val r ≤ val a := by
      have h3 : val r ≤ val r * val r ∨ val r = 0 := by
        rcases Nat.eq_zero_or_pos (val r) with h | h
        · exact .inr h
        · exact .inl (Nat.le_mul_of_pos_right _ h)
      have h4 := Nat.div_le_self (val a) (256 ^ (2 * left))
      rcases h3 with h3 | h3 <;> omega
    have lt : (nat (val r + 2 ^ j)).length ≤ a.length + 1 := by
      refine nat_length_le ?_
      have := val_lt a
      rw [Nat.pow_succ]; omega
    rw [Nat.pow_succ] at h2
    have hadd : abacistref01_Add r [UInt8.ofNat (2 ^ j % 256)] = some (nat (val r + 2 ^ j)) := by rw [refAdd _ _ (by omega) (by simp), val_one, Nat.mod_eq_of_lt (by omega)]
    have lm : (nat ((val r + 2 ^ j) * (val r + 2 ^ j))).length ≤ 2 * (a.length + 1) := by
      have h3 := val_lt (nat (val r + 2 ^ j))
      rw [val_nat] at h3
      have h4 : 256 ^ (nat (val r + 2 ^ j)).length ≤ 256 ^ (a.length + 1) := Nat.pow_le_pow_right (by decide) lt
      refine nat_length_le ?_
      rw [Nat.two_mul, Nat.pow_add]
      exact Nat.mul_lt_mul'' (by omega) (by omega)
    have h3 := refRoot3 a r (nat (val r + 2 ^ j)) i (2 ^ j) left ha (by omega) (2 * left) 0 (nat ((val r + 2 ^ j) * (val r + 2 ^ j))) (Nat.zero_add _) (by omega)
    have h3 : abacistref02_Root_3 a r (i : Int) ((2 ^ j : Nat) : Int) (nat (val r + 2 ^ j)) (left : Int) (nat ((val r + 2 ^ j) * (val r + 2 ^ j))) 0 = _ := h3
    rw [val_nat] at h3
    rw [abacistref02_Root_2_eq, cT (decide_eq_true (by omega)), refByte, Option.bind_some, hadd, Option.bind_some, cT (by rfl), refMul _ _ (by omega) (by omega), Option.bind_some, val_nat, el, h3]
    by_cases hc : (val r + 2 ^ j) * (val r + 2 ^ j) * 256 ^ (2 * left) ≤ val a
    · refine ⟨nat (val r + 2 ^ j), by rw [if_pos hc], by omega, ?_, ?_⟩
      · rw [val_nat]; exact (Nat.le_div_iff_mul_le (Nat.pow_pos (by decide))).2 hc
      · rw [val_nat, show val r + 2 ^ j + 2 ^ j = val r + 2 ^ j * 2 by omega]; exact h2
    · refine ⟨r, by rw [if_neg hc], hrl, h1, ?_⟩
      exact (Nat.div_lt_iff_lt_mul (Nat.pow_pos (by decide))).2 (by omega)
  intro j
  induction j with
  | zero =>
    intro r hj hrl h1 h2
    obtain ⟨r1, e, g1, g2, g3⟩ := step 0 r hj hrl h1 h2
    refine ⟨r1, ?_, g1, g2, g3⟩
    rw [e, abacistref02_Root_4_eq, cT (by rfl), show IntKind.i64.wrap (((2 ^ 0 : Nat) : Int).tdiv 2) = 0 by decide, abacistref02_Root_2_eq, cF (by rfl), wS (by omega)]
  | succ j ih =>
    intro r hj hrl h1 h2
    obtain ⟨r1, e, g1, g2, g3⟩ := step (j + 1) r hj hrl h1 h2
    obtain ⟨r', e', q⟩ := ih r1 (by omega) g1 g2 g3
    refine ⟨r', ?_, q⟩
    have hp : 2 ^ (j + 1) ≤ 2 ^ 7 := Nat.pow_le_pow_right (by decide) hj
    have ed : IntKind.i64.wrap (((2 ^ (j + 1) : Nat) : Int).tdiv 2) = ((2 ^ j : Nat) : Int) := by
      rw [Nat.pow_succ] at hp ⊢
      generalize 2 ^ j = s at *
      rw [Int.tdiv_eq_ediv_of_nonneg (by omega), wrap64 (by omega) (by omega)]
      omega
    rw [e, abacistref02_Root_4_eq, cT (by rfl), ed, e']
theorem scale (r M : Nat) (h1 : r * r * 65536 ≤ M) (h2 : M < (r + 1) * (r + 1) * 65536) : r * 256 * (r * 256) ≤ M ∧ M < (r * 256 + 2 ^ (7 + 1)) * (r * 256 + 2 ^ (7 + 1)) := by
  have s1 : r * 256 * (r * 256) = r * r * 65536 := by grind
  have s2 : (r * 256 + 256) * (r * 256 + 256) = (r + 1) * (r + 1) * 65536 := by grind
  have e : 2 ^ (7 + 1) = 256 := rfl
  rw [e, s1, s2]
  exact ⟨h1, h2⟩
theorem refRoot1 (a : List UInt8) (ha : a.length ≤ 100000) : ∀ (m i : Nat) (r : List UInt8), i + m = (a.length + 1) / 2 → r.length ≤ a.length + 1 + i → IsRoot (val r) (val a / 256 ^ (2 * m)) → ∃ s, abacistref02_Root_1 a r (i : Int) = some (nat s) ∧ IsRoot s (val a)
  | 0, i, r, hi, hl, hr => by
    have eh : IntKind.i64.wrap ((IntKind.i64.wrap ((a.length : Int) + 1)).tdiv 2) = (((a.length + 1) / 2 : Nat) : Int) := by
      rw [wS (by omega), Int.tdiv_eq_ediv_of_nonneg (by omega), wrap64 (by omega) (by omega)]; omega
    refine ⟨val r, ?_, by simpa using hr⟩
    rw [abacistref02_Root_1_eq, cT (by rfl), eh, cF (decide_eq_false (by omega)), refTrim r (by omega)]; rfl
  | m + 1, i, r, hi, hl, hr => by
    have eh : IntKind.i64.wrap ((IntKind.i64.wrap ((a.length : Int) + 1)).tdiv 2) = (((a.length + 1) / 2 : Nat) : Int) := by
      rw [wS (by omega), Int.tdiv_eq_ediv_of_nonneg (by omega), wrap64 (by omega) (by omega)]; omega
    have hv : val (r ++ [0]) = val r * 256 := by rw [val_snoc]; exact Nat.add_zero _
    have hM : val a / 256 ^ (2 * (m + 1)) = val a / 256 ^ (2 * m) / 65536 := by rw [show 2 * (m + 1) = 2 * m + 2 by omega, Nat.pow_add, ← Nat.div_div_eq_div_mul]
    rw [hM] at hr
    have q1 : val r * val r * 65536 ≤ val a / 256 ^ (2 * m) := (Nat.le_div_iff_mul_le (by decide)).1 hr.1
    have q2 : val a / 256 ^ (2 * m) < (val r + 1) * (val r + 1) * 65536 := (Nat.div_lt_iff_lt_mul (by decide)).1 hr.2
    obtain ⟨p1, p2⟩ := scale _ _ q1 q2
    obtain ⟨r', e, g1, g2⟩ := refRoot2 a ha i m (by omega) 7 (r ++ [0]) (by omega) (by simp; omega) (by rw [hv]; exact p1) (by rw [hv]; exact p2)
    obtain ⟨s, e2, hs⟩ := refRoot1 a ha m (i + 1) r' (by omega) (by omega) g2
    refine ⟨s, ?_, hs⟩
    have e : abacistref02_Root_2 a (r ++ [0]) (i : Int) 128 = _ := e
    rw [abacistref02_Root_1_eq, cT (by rfl), eh, cT (decide_eq_true (by omega)), cT (Nat.ble_eq_true_of_le (by simp; omega)), e, e2]
theorem refRoot (a : List UInt8) (ha : a.length ≤ 100000) : ∃ r, abacistref02_Root a = some (nat r) ∧ IsRoot r (val a) := by
  have la := nat_val_length a
  have hv := val_lt (nat (val a))
  have hp : 256 ^ (nat (val a)).length ≤ 256 ^ (2 * (((nat (val a)).length + 1) / 2)) := Nat.pow_le_pow_right (by decide) (by omega)
  obtain ⟨s, e, hs⟩ := refRoot1 (nat (val a)) (by omega) (((nat (val a)).length + 1) / 2) 0 [] (Nat.zero_add _) (by simp) (by rw [Nat.div_eq_of_lt (by omega), val_nil]; exact ⟨by omega, by omega⟩)
  rw [val_nat] at hs
  refine ⟨s, ?_, hs⟩
  rw [abacistref02_Root_eq, refTrim a (by omega), Option.bind_some]
  exact e
end Go.Proofs.YtidlkgbaobfiaaaDoor.P
