/- The program's naturals: comparing, sums, products. -/
import Derived.Test.YtcdcijhfjiahkaaDoorRPB
set_option linter.unusedVariables false
set_option linter.unusedSimpArgs false
namespace Go.Proofs.YtcdcijhfjiahkaaDoorR.P
open Go Go.Proofs.YtcdcijhfjiahkaaDoorR.K Go.Proofs.YtcdcijhfjiahkaaDoorR.C
theorem cmpFrom_val (l m : List Int) (hl : Ok 4294967296 l) (hm : Ok 4294967296 m) : ∀ k : Nat, H.cmpFrom l m k = sgnv (W 4294967296 (l.take k)) (W 4294967296 (m.take k))
  | 0 => by simp [H.cmpFrom, W, sgnv]
  | k + 1 => by
    have h1 := hl.getD (by decide) k
    have h2 := hm.getD (by decide) k
    have w1 := W_lt (hl.take k)
    have w2 := W_lt (hm.take k)
    have p1 : 4294967296 ^ (l.take k).length ≤ 4294967296 ^ k := Nat.pow_le_pow_right (by decide) (by simp; omega)
    have p2 : 4294967296 ^ (m.take k).length ≤ 4294967296 ^ k := Nat.pow_le_pow_right (by decide) (by simp; omega)
    have e1 : rd l (k : Int) = l.getD k 0 := rfl
    have e2 : rd m (k : Int) = m.getD k 0 := rfl
    rw [H.cmpFrom, e1, e2, W_take, W_take, cmpFrom_val l m hl hm k]
    generalize l.getD k 0 = x at h1
    generalize m.getD k 0 = y at h2
    generalize W 4294967296 (l.take k) = u at w1
    generalize W 4294967296 (m.take k) = v at w2
    generalize 4294967296 ^ k = Q at p1 p2
    by_cases hxy : x = y
    · subst hxy
      rw [if_pos rfl]
      unfold sgnv
      simp only [Nat.add_lt_add_iff_right, Nat.add_right_cancel_iff]
    · rw [if_neg hxy]
      obtain ⟨a, rfl⟩ := Int.eq_ofNat_of_zero_le h1.1
      obtain ⟨b, rfl⟩ := Int.eq_ofNat_of_zero_le h2.1
      simp only [Int.toNat_natCast]
      unfold sgnv
      by_cases c1 : (a : Int) > b
      · have h3 : Q * (b + 1) ≤ Q * a := Nat.mul_le_mul_left _ (by omega)
        rw [Nat.mul_add] at h3
        rw [if_pos c1, if_neg (by omega), if_neg (by omega)]
      · have h3 : Q * (a + 1) ≤ Q * b := Nat.mul_le_mul_left _ (by omega)
        rw [Nat.mul_add] at h3
        rw [if_neg c1, if_pos (by omega)]
theorem limbsCmp (a b : Nat) (ha : (limbs a).length ≤ 9223372036854775807) (hb : (limbs b).length ≤ 9223372036854775807) : nat_limbs_cmp (limbs a) (limbs b) = some (sgnv a b) := by
  refine (top_call ..).trans ?_
  show H.cmpF (limbs a, limbs b) = _
  unfold H.cmpF
  rw [show (decide ((limbs a).length ≤ 9223372036854775807) && decide ((limbs b).length ≤ 9223372036854775807)) = true by simp; omega, cond_true]
  congr 1
  by_cases h : (limbs a).length = (limbs b).length
  · rw [if_pos h, cmpFrom_val _ _ (limbs_ok a) (limbs_ok b), List.take_length, W_limbs, h, List.take_length, W_limbs]
  · rw [if_neg h]
    unfold sgnv
    by_cases h2 : (limbs a).length > (limbs b).length
    · have := limbs_len_lt h2
      rw [if_pos h2, if_neg (by omega), if_neg (by omega)]
    · have := limbs_len_lt (a := a) (b := b) (by omega)
      rw [if_neg h2, if_pos this]
theorem natCmp (a b : List UInt8) (ha : a.length ≤ 1099511627776) (hb : b.length ≤ 1099511627776) : nat_Cmp a b = some (sgnv (val a) (val b)) := by
  have h1 := limbs_val a
  have h2 := limbs_val b
  rw [nat_Cmp_eq, natRead a (by omega), natRead b (by omega), Option.bind_some, Option.bind_some, limbsCmp _ _ (by omega) (by omega)]; rfl
theorem natAdd1 (l m : List Int) (hl : Ok 4294967296 l) (hm : Ok 4294967296 m) (ll : l.length ≤ 274877906944) (lm : m.length ≤ 274877906944) : ∀ (n i c : Nat) (acc : List Int), i + n = max l.length m.length → acc.length = i → Ok 4294967296 acc → c ≤ 1 →
    W 4294967296 acc + 4294967296 ^ i * c = W 4294967296 (l.take i) + W 4294967296 (m.take i) → nat_Add_1 l m (c : Int) ((max l.length m.length : Nat) : Int) (i : Int) acc = some (nat (W 4294967296 l + W 4294967296 m))
  | 0, i, c, acc, hn, ha, ho, hc, hw => by
    have e : IntKind.u32.wrap (c : Int) = (c : Int) := wrapU32 (by omega) (by omega)
    rw [nat_Add_1_eq, cF (decide_eq_false (by omega)), cT (room _ _ _ (by simp; omega)), e, natText _ (by simp; omega) (ho.snoc (by omega) (by omega)), Option.bind_some, W_snoc, ha, Int.toNat_natCast, hw, W_all _ l i (by omega), W_all _ m i (by omega)]
  | n + 1, i, c, acc, hn, ha, ho, hc, hw => by
    have h1 := hl.getD (by decide) i
    have h2 := hm.getD (by decide) i
    have n1 : l.getD i 0 = ((l.getD i 0).toNat : Int) := by omega
    have n2 : m.getD i 0 = ((m.getD i 0).toNat : Int) := by omega
    generalize hx : (l.getD i 0).toNat = x at n1
    generalize hy : (m.getD i 0).toNat = y at n2
    have hv : IntKind.u64.wrap (IntKind.u64.wrap ((x : Int) + (y : Int)) + (c : Int)) = ((x + y + c : Nat) : Int) := by rw [wrapU64 (n := (x : Int) + (y : Int)) (by omega) (by omega), wrapU64 (by omega) (by omega)]; omega
    have e1 : IntKind.u32.wrap ((x + y + c : Nat) : Int) = (((x + y + c) % 4294967296 : Nat) : Int) := by rw [mod_u32]; omega
    have e2 : ((x + y + c : Nat) : Int).fdiv (2 ^ min 32 IntKind.u64.bits) = (((x + y + c) / 4294967296 : Nat) : Int) := by rw [p32, fd (by omega)]; omega
    rw [nat_Add_1_eq, cT (decide_eq_true (by omega)), natAt l hl, natAt m hm, Option.bind_some, Option.bind_some, n1, n2, hv, e1, cT (room _ _ _ (by simp; omega)), cT (decide_eq_true (by decide)), e2, wS (by omega)]
    refine natAdd1 l m hl hm ll lm n (i + 1) _ _ (by omega) (by simp [ha]) (ho.snoc (by omega) (by omega)) (by omega) ?_
    have hs := add_step (4294967296 ^ i) 4294967296 (W 4294967296 acc) c x y (W 4294967296 (l.take i)) (W 4294967296 (m.take i)) ((x + y + c) / 4294967296) ((x + y + c) % 4294967296) hw (by omega)
    rw [W_snoc, ha, Int.toNat_natCast, W_take, W_take, hx, hy, Nat.pow_succ]
    exact hs
theorem natAdd (a b : List UInt8) (ha : a.length ≤ 1099511627000) (hb : b.length ≤ 1099511627000) : nat_Add a b = some (nat (val a + val b)) := by
  have h1 := limbs_val a
  have h2 := limbs_val b
  have := natAdd1 (limbs (val a)) (limbs (val b)) (limbs_ok _) (limbs_ok _) (by omega) (by omega) _ 0 0 [] (Nat.zero_add _) rfl (Ok.nil _) (by omega) (by simp [W])
  rw [nat_Add_eq, natRead a (by omega), natRead b (by omega), Option.bind_some, Option.bind_some, show max ((limbs (val a)).length : Int) ((limbs (val b)).length : Int) = ((max (limbs (val a)).length (limbs (val b)).length : Nat) : Int) by omega]
  rw [W_limbs, W_limbs] at this
  exact this
/-- A row of a product. -/
theorem natMul2 (l m : List Int) (hl : Ok 4294967296 l) (hm : Ok 4294967296 m) (ll : l.length ≤ 274877906944) (lm : m.length ≤ 274877906944) (i : Nat) (hi : i < l.length) (X : Nat) : ∀ (n k c : Nat) (out : List Int), k + n = m.length → out.length = l.length + m.length → Ok 4294967296 out → c < 4294967296 →
    (∀ p, i + m.length ≤ p → out.getD p 0 = 0) → W 4294967296 out + 4294967296 ^ (i + k) * c = X + (l.getD i 0).toNat * 4294967296 ^ i * W 4294967296 (m.take k) →
    ∃ out', nat_Mul_2 l m (i : Int) (c : Int) (l.length : Int) (i : Int) (m.length : Int) (k : Int) out = nat_Mul_1 l m (l.length : Int) ((i + 1 : Nat) : Int) out' ∧ out'.length = l.length + m.length ∧ Ok 4294967296 out' ∧ (∀ p, i + 1 + m.length ≤ p → out'.getD p 0 = 0) ∧
      W 4294967296 out' = X + (l.getD i 0).toNat * 4294967296 ^ i * W 4294967296 m
  | 0, k, c, out, hn, ho1, ho, hc, hz, hw => by
    have e : IntKind.u32.wrap (c : Int) = (c : Int) := wrapU32 (by omega) (by omega)
    refine ⟨out.set (i + m.length) (c : Int), ?_, by simp [ho1], ho.set _ (by omega) (by omega), fun p hp => ?_, ?_⟩
    · rw [nat_Mul_2_eq, cF (decide_eq_false (by omega)), wA (by omega), ho1, cT (ix (by omega)), wS (by omega), Int.toNat_natCast, e]
    · rw [getD_set_ne _ _ _ _ (by omega)]; exact hz p (by omega)
    · have h1 := W_set' 4294967296 out (i + m.length) c (by omega)
      rw [hz _ (Nat.le_refl _)] at h1
      obtain rfl : k = m.length := by omega
      rw [List.take_length] at hw
      simp only [Int.toNat_zero, Nat.mul_zero, Nat.add_zero] at h1
      omega
  | n + 1, k, c, out, hn, ho1, ho, hc, hz, hw => by
    have h1 := ho.getD (by decide) (i + k)
    have h2 := hm.getD (by decide) k
    have h0 := hl.getD (by decide) i
    have n1 : out.getD (i + k) 0 = ((out.getD (i + k) 0).toNat : Int) := by omega
    have n2 : m.getD k 0 = ((m.getD k 0).toNat : Int) := by omega
    have n0 : l.getD i 0 = ((l.getD i 0).toNat : Int) := by omega
    generalize hy : (out.getD (i + k) 0).toNat = y at n1
    generalize hd : (m.getD k 0).toNat = d at n2
    generalize hx : (l.getD i 0).toNat = x at n0 hw
    have hxd := le_mul_pred (a := x) (b := d) (B := 4294967296) (by omega) (by omega)
    have hv : IntKind.u64.wrap (IntKind.u64.wrap (IntKind.u64.wrap ((x : Int) * (d : Int)) + (y : Int)) + (c : Int)) = ((x * d + y + c : Nat) : Int) := by
      rw [show (x : Int) * (d : Int) = ((x * d : Nat) : Int) by simp, wrapU64 (n := ((x * d : Nat) : Int)) (by omega) (by omega), wrapU64 (n := ((x * d : Nat) : Int) + (y : Int)) (by omega) (by omega), wrapU64 (by omega) (by omega)]
      omega
    have hlt : (x * d + y + c) / 4294967296 < 4294967296 := by omega
    have e1 : IntKind.u32.wrap ((x * d + y + c : Nat) : Int) = (((x * d + y + c) % 4294967296 : Nat) : Int) := by rw [mod_u32]; omega
    have e2 : ((x * d + y + c : Nat) : Int).fdiv (2 ^ min 32 IntKind.u64.bits) = (((x * d + y + c) / 4294967296 : Nat) : Int) := by rw [p32, fd (by omega)]; omega
    have hstep := natMul2 l m hl hm ll lm i hi X n (k + 1) ((x * d + y + c) / 4294967296) (out.set (i + k) (((x * d + y + c) % 4294967296 : Nat) : Int)) (by omega) (by simp [ho1]) (ho.set _ (by omega) (by omega)) hlt
      (fun p hp => by rw [getD_set_ne _ _ _ _ (by omega)]; exact hz p hp) (by
        have hset := W_set' 4294967296 out (i + k) ((x * d + y + c) % 4294967296) (by omega)
        rw [hy] at hset
        have := mul_step 4294967296 (4294967296 ^ (i + k)) (W 4294967296 out) (W 4294967296 (out.set (i + k) (((x * d + y + c) % 4294967296 : Nat) : Int))) X (W 4294967296 (m.take k)) c x d y ((x * d + y + c) / 4294967296) ((x * d + y + c) % 4294967296) (4294967296 ^ i) (4294967296 ^ k) hw (Nat.pow_add _ _ _) hset (by omega)
        rw [W_take, hd, hx, ← Nat.add_assoc i k 1, Nat.pow_succ]
        exact this)
    obtain ⟨out', h, r⟩ := hstep
    rw [hx] at r
    refine ⟨out', ?_, r⟩
    rw [nat_Mul_2_eq, cT (decide_eq_true (by omega)), natAt l hl, natAt m hm, Option.bind_some, Option.bind_some, wA (by omega), natAt out ho, Option.bind_some, n0, n1, n2, hv, e1, ho1, cT (ix (by omega)), cT (decide_eq_true (by decide)), e2, wS (by omega), Int.toNat_natCast]
    exact h
theorem natMul1 (l m : List Int) (hl : Ok 4294967296 l) (hm : Ok 4294967296 m) (ll : l.length ≤ 274877906944) (lm : m.length ≤ 274877906944) : ∀ (n i : Nat) (out : List Int), i + n = l.length → out.length = l.length + m.length → Ok 4294967296 out → (∀ p, i + m.length ≤ p → out.getD p 0 = 0) →
    W 4294967296 out = W 4294967296 (l.take i) * W 4294967296 m → nat_Mul_1 l m (l.length : Int) (i : Int) out = some (nat (W 4294967296 l * W 4294967296 m))
  | 0, i, out, hn, h1, ho, hz, hw => by
    rw [W_all _ l i (by omega)] at hw
    rw [nat_Mul_1_eq, cF (decide_eq_false (by omega)), natText out (by omega) ho, hw]; rfl
  | n + 1, i, out, hn, h1, ho, hz, hw => by
    obtain ⟨out', h, q1, q2, q3, q4⟩ := natMul2 l m hl hm ll lm i (by omega) (W 4294967296 out) m.length 0 0 out (Nat.zero_add _) h1 ho (by omega) hz (by simp [W])
    rw [nat_Mul_1_eq, cT (decide_eq_true (by omega))]
    refine Eq.trans h ?_
    refine natMul1 l m hl hm ll lm n (i + 1) out' (by omega) q1 q2 q3 ?_
    rw [q4, hw, W_take, Nat.add_mul, Nat.mul_comm (l.getD i 0).toNat]
theorem zeros_getD (n p : Nat) : (List.replicate n (0 : Int)).getD p 0 = 0 := by
  rw [List.getD_eq_getElem?_getD, List.getElem?_replicate]; split <;> rfl
theorem natMul (a b : List UInt8) (ha : a.length ≤ 549755813000) (hb : b.length ≤ 549755813000) : nat_Mul a b = some (nat (val a * val b)) := by
  have h1 := limbs_val a
  have h2 := limbs_val b
  have := natMul1 (limbs (val a)) (limbs (val b)) (limbs_ok _) (limbs_ok _) (by omega) (by omega) _ 0 (List.replicate ((limbs (val a)).length + (limbs (val b)).length) 0) (Nat.zero_add _) (by simp) (Ok.zeros (by decide) _) (fun p _ => zeros_getD _ _) (by rw [W_zeros]; simp [W])
  rw [W_limbs, W_limbs] at this
  rw [nat_Mul_eq, natRead a (by omega), natRead b (by omega), Option.bind_some, Option.bind_some, wA (by omega), cT (by simp; omega), Int.toNat_natCast]
  exact this
end Go.Proofs.YtcdcijhfjiahkaaDoorR.P
