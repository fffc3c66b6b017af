/- Part 7 of the proof: the machine, the tables and the pure laws that the last text joins. -/
import Derived.Test.YtpdfjgooaaailaaGreatDoorZ6
import Derived.Test.YtpdfjgooaaailaaGreatDoorZ5
import Derived.WalkKit
import Derived.BigCall
import Derived.Maps.AppendAt
import Derived.Shelf.Strings.BuilderK
import Derived.Laws.RangeAny
import Derived.LoopTactic
import Derived.Test.YtpdfjgooaaailaaGreatDoorProg
set_option linter.unusedVariables false
set_option linter.unusedSimpArgs false
namespace Go.Proofs.YtpdfjgooaaailaaGreatDoor.P
open Go Go.Proofs.YtpdfjgooaaailaaGreatDoor.K Go.Proofs.YtpdfjgooaaailaaGreatDoor.C
theorem cmpFrom_val (l m : List Int) (hl : Ok 4294967296 l) (hm : Ok 4294967296 m) : ∀ k : Nat, H.cmpFrom l m k = sgnv (W 4294967296 (l.take k)) (W 4294967296 (m.take k))
  | 0 => by simp [H.cmpFrom, W, sgnv]
  | k + 1 => by
    have h1 := hl.getD (by decide) k
    have h2 := hm.getD (by decide) k
    have w1 := W_lt (hl.take k)
    have w2 := W_lt (hm.take k)
    have p1 : 4294967296 ^ (l.take k).length ≤ 4294967296 ^ k := Nat.pow_le_pow_right (by decide) (by simp; omega)
    have p2 : 4294967296 ^ (m.take k).length ≤ 4294967296 ^ k := Nat.pow_le_pow_right (by decide) (by simp; omega)
    have e1 : rd l (k : Int) = l.getD k 0 := rfl
    have e2 : rd m (k : Int) = m.getD k 0 := rfl
    rw [H.cmpFrom, e1, e2, W_take, W_take, cmpFrom_val l m hl hm k]
    generalize l.getD k 0 = x at h1
    generalize m.getD k 0 = y at h2
    generalize W 4294967296 (l.take k) = u at w1
    generalize W 4294967296 (m.take k) = v at w2
    generalize 4294967296 ^ k = Q at p1 p2
    by_cases hxy : x = y
    · subst hxy
      rw [if_pos rfl]
      unfold sgnv
      simp only [Nat.add_lt_add_iff_right, Nat.add_right_cancel_iff]
    · rw [if_neg hxy]
      obtain ⟨a, rfl⟩ := Int.eq_ofNat_of_zero_le h1.1
      obtain ⟨b, rfl⟩ := Int.eq_ofNat_of_zero_le h2.1
      simp only [Int.toNat_natCast]
      unfold sgnv
      by_cases c1 : (a : Int) > b
      · have h3 : Q * (b + 1) ≤ Q * a := Nat.mul_le_mul_left _ (by omega)
        rw [Nat.mul_add] at h3
        rw [if_pos c1, if_neg (by omega), if_neg (by omega)]
      · have h3 : Q * (a + 1) ≤ Q * b := Nat.mul_le_mul_left _ (by omega)
        rw [Nat.mul_add] at h3
        rw [if_neg c1, if_pos (by omega)]
theorem limbsCmp (a b : Nat) (ha : (limbs a).length ≤ 9223372036854775807) (hb : (limbs b).length ≤ 9223372036854775807) : nat_limbs_cmp (limbs a) (limbs b) = some (sgnv a b) := by
  refine (top_call ..).trans ?_
  show H.cmpF (limbs a, limbs b) = _
  unfold H.cmpF
  rw [show (decide ((limbs a).length ≤ 9223372036854775807) && decide ((limbs b).length ≤ 9223372036854775807)) = true by simp; omega, cond_true]
  congr 1
  by_cases h : (limbs a).length = (limbs b).length
  · rw [if_pos h, cmpFrom_val _ _ (limbs_ok a) (limbs_ok b), List.take_length, W_limbs, h, List.take_length, W_limbs]
  · rw [if_neg h]
    unfold sgnv
    by_cases h2 : (limbs a).length > (limbs b).length
    · have := limbs_len_lt h2
      rw [if_pos h2, if_neg (by omega), if_neg (by omega)]
    · have := limbs_len_lt (a := a) (b := b) (by omega)
      rw [if_neg h2, if_pos this]
theorem natCmp (a b : List UInt8) (ha : a.length ≤ 1099511627776) (hb : b.length ≤ 1099511627776) : nat_Cmp a b = some (sgnv (val a) (val b)) := by
  have h1 := limbs_val a
  have h2 := limbs_val b
  rw [nat_Cmp_eq, natRead a (by omega), natRead b (by omega), Option.bind_some, Option.bind_some, limbsCmp _ _ (by omega) (by omega)]; rfl
theorem natAdd1 (l m : List Int) (hl : Ok 4294967296 l) (hm : Ok 4294967296 m) (ll : l.length ≤ 274877906944) (lm : m.length ≤ 274877906944) : ∀ (n i c : Nat) (acc : List Int), i + n = max l.length m.length → acc.length = i → Ok 4294967296 acc → c ≤ 1 →
    W 4294967296 acc + 4294967296 ^ i * c = W 4294967296 (l.take i) + W 4294967296 (m.take i) → nat_Add_1 l m (c : Int) ((max l.length m.length : Nat) : Int) (i : Int) acc = some (nat (W 4294967296 l + W 4294967296 m))
  | 0, i, c, acc, hn, ha, ho, hc, hw => by
    have e : IntKind.u32.wrap (c : Int) = (c : Int) := wrapU32 (by omega) (by omega)
    rw [nat_Add_1_eq, cF (decide_eq_false (by omega)), cT (room _ _ _ (by simp; omega)), e, natText _ (by simp; omega) (ho.snoc (by omega) (by omega)), Option.bind_some, W_snoc, ha, Int.toNat_natCast, hw, W_all _ l i (by omega), W_all _ m i (by omega)]
  | n + 1, i, c, acc, hn, ha, ho, hc, hw => by
    have h1 := hl.getD (by decide) i
    have h2 := hm.getD (by decide) i
    have n1 : l.getD i 0 = ((l.getD i 0).toNat : Int) := by omega
    have n2 : m.getD i 0 = ((m.getD i 0).toNat : Int) := by omega
    generalize hx : (l.getD i 0).toNat = x at n1
    generalize hy : (m.getD i 0).toNat = y at n2
    have hv : IntKind.u64.wrap (IntKind.u64.wrap ((x : Int) + (y : Int)) + (c : Int)) = ((x + y + c : Nat) : Int) := by rw [wrapU64 (n := (x : Int) + (y : Int)) (by omega) (by omega), wrapU64 (by omega) (by omega)]; omega
    have e1 : IntKind.u32.wrap ((x + y + c : Nat) : Int) = (((x + y + c) % 4294967296 : Nat) : Int) := by rw [mod_u32]; omega
    have e2 : ((x + y + c : Nat) : Int).fdiv (2 ^ min 32 IntKind.u64.bits) = (((x + y + c) / 4294967296 : Nat) : Int) := by rw [p32, fd (by omega)]; omega
    rw [nat_Add_1_eq, cT (decide_eq_true (by omega)), natAt l hl, natAt m hm, Option.bind_some, Option.bind_some, n1, n2, hv, e1, cT (room _ _ _ (by simp; omega)), cT (decide_eq_true (by decide)), e2, wS (by omega)]
    refine natAdd1 l m hl hm ll lm n (i + 1) _ _ (by omega) (by simp [ha]) (ho.snoc (by omega) (by omega)) (by omega) ?_
    have hs := add_step (4294967296 ^ i) 4294967296 (W 4294967296 acc) c x y (W 4294967296 (l.take i)) (W 4294967296 (m.take i)) ((x + y + c) / 4294967296) ((x + y + c) % 4294967296) hw (by omega)
    rw [W_snoc, ha, Int.toNat_natCast, W_take, W_take, hx, hy, Nat.pow_succ]
    exact hs
theorem natAdd (a b : List UInt8) (ha : a.length ≤ 1099511627000) (hb : b.length ≤ 1099511627000) : nat_Add a b = some (nat (val a + val b)) := by
  have h1 := limbs_val a
  have h2 := limbs_val b
  have := natAdd1 (limbs (val a)) (limbs (val b)) (limbs_ok _) (limbs_ok _) (by omega) (by omega) _ 0 0 [] (Nat.zero_add _) rfl (Ok.nil _) (by omega) (by simp [W])
  rw [nat_Add_eq, natRead a (by omega), natRead b (by omega), Option.bind_some, Option.bind_some, show max ((limbs (val a)).length : Int) ((limbs (val b)).length : Int) = ((max (limbs (val a)).length (limbs (val b)).length : Nat) : Int) by omega]
  rw [W_limbs, W_limbs] at this
  exact this
theorem natMul2 (l m : List Int) (hl : Ok 4294967296 l) (hm : Ok 4294967296 m) (ll : l.length ≤ 274877906944) (lm : m.length ≤ 274877906944) (i : Nat) (hi : i < l.length) (X : Nat) : ∀ (n k c : Nat) (out : List Int), k + n = m.length → out.length = l.length + m.length → Ok 4294967296 out → c < 4294967296 →
    (∀ p, i + m.length ≤ p → out.getD p 0 = 0) → W 4294967296 out + 4294967296 ^ (i + k) * c = X + (l.getD i 0).toNat * 4294967296 ^ i * W 4294967296 (m.take k) →
    ∃ out', nat_Mul_2 l m (i : Int) (c : Int) (l.length : Int) (i : Int) (m.length : Int) (k : Int) out = nat_Mul_1 l m (l.length : Int) ((i + 1 : Nat) : Int) out' ∧ out'.length = l.length + m.length ∧ Ok 4294967296 out' ∧ (∀ p, i + 1 + m.length ≤ p → out'.getD p 0 = 0) ∧
      W 4294967296 out' = X + (l.getD i 0).toNat * 4294967296 ^ i * W 4294967296 m
  | 0, k, c, out, hn, ho1, ho, hc, hz, hw => by
    have e : IntKind.u32.wrap (c : Int) = (c : Int) := wrapU32 (by omega) (by omega)
    refine ⟨out.set (i + m.length) (c : Int), ?_, by simp [ho1], ho.set _ (by omega) (by omega), fun p hp => ?_, ?_⟩
    · rw [nat_Mul_2_eq, cF (decide_eq_false (by omega)), wA (by omega), ho1, cT (ix (by omega)), wS (by omega), Int.toNat_natCast, e]
    · rw [getD_set_ne _ _ _ _ (by omega)]; exact hz p (by omega)
    · have h1 := W_set' 4294967296 out (i + m.length) c (by omega)
      rw [hz _ (Nat.le_refl _)] at h1
      obtain rfl : k = m.length := by omega
      rw [List.take_length] at hw
      simp only [Int.toNat_zero, Nat.mul_zero, Nat.add_zero] at h1
      omega
  | n + 1, k, c, out, hn, ho1, ho, hc, hz, hw => by
    have h1 := ho.getD (by decide) (i + k)
    have h2 := hm.getD (by decide) k
    have h0 := hl.getD (by decide) i
    have n1 : out.getD (i + k) 0 = ((out.getD (i + k) 0).toNat : Int) := by omega
    have n2 : m.getD k 0 = ((m.getD k 0).toNat : Int) := by omega
    have n0 : l.getD i 0 = ((l.getD i 0).toNat : Int) := by omega
    generalize hy : (out.getD (i + k) 0).toNat = y at n1
    generalize hd : (m.getD k 0).toNat = d at n2
    generalize hx : (l.getD i 0).toNat = x at n0 hw
    have hxd := le_mul_pred (a := x) (b := d) (B := 4294967296) (by omega) (by omega)
    have hv : IntKind.u64.wrap (IntKind.u64.wrap (IntKind.u64.wrap ((x : Int) * (d : Int)) + (y : Int)) + (c : Int)) = ((x * d + y + c : Nat) : Int) := by
      rw [show (x : Int) * (d : Int) = ((x * d : Nat) : Int) by simp, wrapU64 (n := ((x * d : Nat) : Int)) (by omega) (by omega), wrapU64 (n := ((x * d : Nat) : Int) + (y : Int)) (by omega) (by omega), wrapU64 (by omega) (by omega)]
      omega
    have hlt : (x * d + y + c) / 4294967296 < 4294967296 := by omega
    have e1 : IntKind.u32.wrap ((x * d + y + c : Nat) : Int) = (((x * d + y + c) % 4294967296 : Nat) : Int) := by rw [mod_u32]; omega
    have e2 : ((x * d + y + c : Nat) : Int).fdiv (2 ^ min 32 IntKind.u64.bits) = (((x * d + y + c) / 4294967296 : Nat) : Int) := by rw [p32, fd (by omega)]; omega
    have hstep := natMul2 l m hl hm ll lm i hi X n (k + 1) ((x * d + y + c) / 4294967296) (out.set (i + k) (((x * d + y + c) % 4294967296 : Nat) : Int)) (by omega) (by simp [ho1]) (ho.set _ (by omega) (by omega)) hlt
      (fun p hp => by rw [getD_set_ne _ _ _ _ (by omega)]; exact hz p hp) (by
        have hset := W_set' 4294967296 out (i + k) ((x * d + y + c) % 4294967296) (by omega)
        rw [hy] at hset
        have := mul_step 4294967296 (4294967296 ^ (i + k)) (W 4294967296 out) (W 4294967296 (out.set (i + k) (((x * d + y + c) % 4294967296 : Nat) : Int))) X (W 4294967296 (m.take k)) c x d y ((x * d + y + c) / 4294967296) ((x * d + y + c) % 4294967296) (4294967296 ^ i) (4294967296 ^ k) hw (Nat.pow_add _ _ _) hset (by omega)
        rw [W_take, hd, hx, ← Nat.add_assoc i k 1, Nat.pow_succ]
        exact this)
    obtain ⟨out', h, r⟩ := hstep
    rw [hx] at r
    refine ⟨out', ?_, r⟩
    rw [nat_Mul_2_eq, cT (decide_eq_true (by omega)), natAt l hl, natAt m hm, Option.bind_some, Option.bind_some, wA (by omega), natAt out ho, Option.bind_some, n0, n1, n2, hv, e1, ho1, cT (ix (by omega)), cT (decide_eq_true (by decide)), e2, wS (by omega), Int.toNat_natCast]
    exact h
theorem natMul1 (l m : List Int) (hl : Ok 4294967296 l) (hm : Ok 4294967296 m) (ll : l.length ≤ 274877906944) (lm : m.length ≤ 274877906944) : ∀ (n i : Nat) (out : List Int), i + n = l.length → out.length = l.length + m.length → Ok 4294967296 out → (∀ p, i + m.length ≤ p → out.getD p 0 = 0) →
    W 4294967296 out = W 4294967296 (l.take i) * W 4294967296 m → nat_Mul_1 l m (l.length : Int) (i : Int) out = some (nat (W 4294967296 l * W 4294967296 m))
  | 0, i, out, hn, h1, ho, hz, hw => by
    rw [W_all _ l i (by omega)] at hw
    rw [nat_Mul_1_eq, cF (decide_eq_false (by omega)), natText out (by omega) ho, hw]; rfl
  | n + 1, i, out, hn, h1, ho, hz, hw => by
    obtain ⟨out', h, q1, q2, q3, q4⟩ := natMul2 l m hl hm ll lm i (by omega) (W 4294967296 out) m.length 0 0 out (Nat.zero_add _) h1 ho (by omega) hz (by simp [W])
    rw [nat_Mul_1_eq, cT (decide_eq_true (by omega))]
    refine Eq.trans h ?_
    refine natMul1 l m hl hm ll lm n (i + 1) out' (by omega) q1 q2 q3 ?_
    rw [q4, hw, W_take, Nat.add_mul, Nat.mul_comm (l.getD i 0).toNat]
theorem zeros_getD (n p : Nat) : (List.replicate n (0 : Int)).getD p 0 = 0 := by
  rw [List.getD_eq_getElem?_getD, List.getElem?_replicate]; split <;> rfl
theorem natMul (a b : List UInt8) (ha : a.length ≤ 549755813000) (hb : b.length ≤ 549755813000) : nat_Mul a b = some (nat (val a * val b)) := by
  have h1 := limbs_val a
  have h2 := limbs_val b
  have := natMul1 (limbs (val a)) (limbs (val b)) (limbs_ok _) (limbs_ok _) (by omega) (by omega) _ 0 (List.replicate ((limbs (val a)).length + (limbs (val b)).length) 0) (Nat.zero_add _) (by simp) (Ok.zeros (by decide) _) (fun p _ => zeros_getD _ _) (by rw [W_zeros]; simp [W])
  rw [W_limbs, W_limbs] at this
  rw [nat_Mul_eq, natRead a (by omega), natRead b (by omega), Option.bind_some, Option.bind_some, wA (by omega), cT (by simp; omega), Int.toNat_natCast]
  exact this
end Go.Proofs.YtpdfjgooaaailaaGreatDoor.P
namespace Go.Proofs.YtpdfjgooaaailaaGreatDoor.P
open Go Go.Proofs.YtpdfjgooaaailaaGreatDoor.K Go.Proofs.YtpdfjgooaaailaaGreatDoor.C
theorem sgnv_neg {a b : Nat} : sgnv a b < 0 ↔ a < b := by
  unfold sgnv
  by_cases h : a < b
  · simp [h]
  · rw [if_neg h]; split <;> simp [h]
theorem len_mono {a b : Nat} (h : a ≤ b) : (nat a).length ≤ (nat b).length := by
  have := val_lt (nat b)
  rw [val_nat] at this
  exact nat_length_le (by omega)
theorem take_one (t : List UInt8) (i : Nat) (h : i < t.length) : (t.take (i + 1)).drop i = [t[i]] := by
  rw [List.drop_take, show i + 1 - i = 1 by omega, List.drop_eq_getElem_cons h]; rfl
def divmod (a b : Nat) : List UInt8 × List UInt8 × Int := if b = 0 then ([], [], 5) else (nat (a / b), nat (a % b), 0)
theorem divRead1 : ∀ (n : Nat) (s : List UInt8) (acc : List Int), s.length ≤ n → s.length + 4 * acc.length ≤ 4398046511104 → (∀ b l, s = b :: l → b ≠ 0) → divide_read_1 s acc = some (acc ++ limbs (val s))
  | 0, s, acc, h, hl, hs => by
    obtain rfl : s = [] := List.eq_nil_of_length_eq_zero (by omega)
    rw [divide_read_1_eq, cF (decide_eq_false (by simp)), val_nil, limbs_zero, List.append_nil]
  | n + 1, s, acc, h, hl, hs => by
    by_cases h0 : s.length = 0
    · obtain rfl : s = [] := List.eq_nil_of_length_eq_zero h0
      rw [divide_read_1_eq, cF (decide_eq_false (by simp)), val_nil, limbs_zero, List.append_nil]
    · have hw : max 0 (IntKind.i64.wrap ((s.length : Int) - 4)) = ((s.length - 4 : Nat) : Int) := by rw [wrap64 (by omega) (by omega)]; omega
      have hcl : (s.drop (s.length - 4)).length ≤ 4 := by simp; omega
      have hv := val_lt (s.drop (s.length - 4))
      have hp : 256 ^ (s.drop (s.length - 4)).length ≤ 256 ^ 4 := Nat.pow_le_pow_right (by decide) hcl
      have hnz : val s ≠ 0 := fun e => h0 (by rw [← trim_fix hs, e, nat_zero]; rfl)
      have hval : val s = val (s.take (s.length - 4)) * 256 ^ (s.drop (s.length - 4)).length + val (s.drop (s.length - 4)) := by rw [← val_append, List.take_append_drop]
      have hst : ∀ b l, s.take (s.length - 4) = b :: l → b ≠ 0 := by
        intro b l e
        cases s with
        | nil => simp at e
        | cons c s =>
          cases hk : (c :: s).length - 4 with
          | zero => rw [hk] at e; simp at e
          | succ k => rw [hk] at e; simp at e; rw [← e.1]; exact hs c s rfl
      have hm : val s % 4294967296 = val (s.drop (s.length - 4)) ∧ val s / 4294967296 = val (s.take (s.length - 4)) := by
        by_cases h4 : s.length ≤ 4
        · rw [show s.length - 4 = 0 by omega] at *
          simp only [List.take_zero, List.drop_zero, val_nil] at *
          constructor <;> omega
        · rw [show (s.drop (s.length - 4)).length = 4 by simp; omega] at *
          constructor <;> omega
      have e1 : IntKind.u32.wrap (((val (s.drop (s.length - 4)) : Nat) : Int)) = ((val s % 4294967296 : Nat) : Int) := by rw [hm.1, wrapU32 (by omega) (by omega)]
      rw [divide_read_1_eq, cT (decide_eq_true (show (s.length : Int) > 0 by omega)), hw, cT (inC (by omega)), Int.toNat_natCast, natSmall _ (by omega), Option.bind_some, small, if_pos (by omega), e1, cT (room _ _ _ (by simp; omega)), cT (inC (by omega)),
        divRead1 n _ _ (by simp; omega) (by simp; omega) hst, limbs_pos hnz, hm.2, List.append_assoc]
      rfl
theorem divRead (s : List UInt8) (h : s.length ≤ 1000000000) : divide_read s = some (limbs (val s)) := by
  have := nat_val_length s
  rw [divide_read_eq, natTrim, Option.bind_some, divRead1 _ _ [] (Nat.le_refl _) (by simp; omega) (nat_head _), val_nat, List.nil_append]
theorem divText (l : List Int) (hl : l.length ≤ 1000000000) (ho : Ok 4294967296 l) : divide_limbs_text l = some (nat (W 4294967296 l)) := by
  refine (top_call ..).trans ?_
  show H.textDivF l = _
  unfold H.textDivF
  rw [cT (decide_eq_true (by omega)), trimB]
  have : H.be4Div l.reverse = H.be4 l.reverse := rfl
  rw [this, be4_ok l ho]
theorem W_dropS (B : Nat) (l : List Int) (k : Nat) (h : k < l.length) : W B (l.drop k) = (l.getD k 0).toNat + B * W B (l.drop (k + 1)) := by
  rw [List.drop_eq_getElem_cons h, W, List.getD_eq_getElem?_getD, List.getElem?_eq_getElem h]; rfl
theorem short1 (l : List Int) (v : Nat) (hb : 0 < v) (hb2 : v < 4294967296) (ho : Ok 4294967296 l) : ∀ (k : Nat) (st : Int × List Int), k ≤ l.length → Ok 4294967296 st.2 → st.2.length = l.length → (∀ p, p < k → st.2.getD p 0 = 0) →
    st.1 = ((W 4294967296 (l.drop k) % v : Nat) : Int) → W 4294967296 st.2 = 4294967296 ^ k * (W 4294967296 (l.drop k) / v) →
    (((List.range k).reverse).foldl (H.shortStep l (v : Int)) st).1 = ((W 4294967296 l % v : Nat) : Int) ∧ W 4294967296 (((List.range k).reverse).foldl (H.shortStep l (v : Int)) st).2 = W 4294967296 l / v ∧
      Ok 4294967296 (((List.range k).reverse).foldl (H.shortStep l (v : Int)) st).2 ∧ (((List.range k).reverse).foldl (H.shortStep l (v : Int)) st).2.length = l.length
  | 0, st, hk, h1, h2, h3, h4, h5 => by
    rw [List.drop_zero] at h4 h5
    refine ⟨h4, ?_, h1, h2⟩
    show W _ st.2 = _
    rw [h5]; simp
  | k + 1, (rest, out), hk, h1, h2, h3, h4, h5 => by
    have hkl : k < l.length := by omega
    have hx := ho.getD (by decide) k
    have e0 : rd l (k : Int) = l.getD k 0 := rfl
    have hm := Nat.mod_lt (W 4294967296 (l.drop (k + 1))) hb
    have hd := Nat.div_add_mod (W 4294967296 (l.drop (k + 1))) v
    have hW := W_dropS 4294967296 l k hkl
    simp only at h1 h2 h3 h4 h5
    generalize hQ : W 4294967296 (l.drop (k + 1)) / v = Q at *
    generalize hr : W 4294967296 (l.drop (k + 1)) % v = r at *
    have n0 : l.getD k 0 = ((l.getD k 0).toNat : Int) := by omega
    generalize hy : (l.getD k 0).toNat = y at n0 hW
    have hq : (r * 4294967296 + y) / v < 4294967296 := (Nat.div_lt_iff_lt_mul hb).2 (by have : (r + 1) * 4294967296 ≤ v * 4294967296 := Nat.mul_le_mul_right _ hm; omega)
    have ex : H.shortX rest (rd l (k : Int)) = ((r * 4294967296 + y : Nat) : Int) := by
      unfold H.shortX
      rw [e0, n0, h4, wrapU64 (n := (y : Int)) (by omega) (by omega), wrapU64 (n := (r : Int) * 4294967296) (by omega) (by omega), ← bitop_or, or_u64 _ _ 32 (by omega) (by omega) (by omega) (by omega) (by omega) (by omega)]
      omega
    have eW : W 4294967296 (l.drop k) = (r * 4294967296 + y) + v * (4294967296 * Q) := by
      rw [hW, ← hd, Nat.mul_add, Nat.mul_left_comm v]; omega
    have eq1 : (IntKind.u64.wrap (((r * 4294967296 + y : Nat) : Int).tdiv (v : Int))) % 4294967296 = (((r * 4294967296 + y) / v : Nat) : Int) := by
      rw [Int.tdiv_eq_ediv_of_nonneg (by omega), ← Int.natCast_ediv]
      generalize (r * 4294967296 + y) / v = d at hq
      rw [wrapU64 (by omega) (by omega)]
      omega
    have es : H.shortStep l (v : Int) (rest, out) k = ((((r * 4294967296 + y) % v : Nat) : Int), out.set k (((r * 4294967296 + y) / v : Nat) : Int)) := by
      unfold H.shortStep
      simp only
      rw [ex, eq1, Int.tmod_eq_emod_of_nonneg (by omega), ← Int.natCast_emod]
    rw [List.range_succ, List.reverse_append, List.reverse_singleton, List.singleton_append, List.foldl_cons, es]
    refine short1 l v hb hb2 ho k _ (by omega) (h1.set _ (Int.natCast_nonneg _) (by exact_mod_cast hq)) (by simp [h2]) (fun p hp => ?_) ?_ ?_
    · simp only
      rw [getD_set_ne _ _ _ _ (by omega)]; exact h3 p (by omega)
    · simp only
      rw [eW, Nat.add_mul_mod_self_left]
    · simp only
      have hs := W_set' 4294967296 out k ((r * 4294967296 + y) / v) (by omega)
      rw [h3 k (by omega)] at hs
      rw [eW, Nat.add_mul_div_left _ _ hb]
      simp only [Int.toNat_zero, Nat.mul_zero, Nat.add_zero] at hs
      rw [hs, h5, Nat.pow_succ, Nat.mul_add, Nat.mul_assoc]
      omega
theorem divShort (l : List Int) (v : Nat) (hb : 0 < v) (hb2 : v < 4294967296) (ho : Ok 4294967296 l) (hl : l.length ≤ 1000000000) : ∃ out, divide_limbs_short l (v : Int) = some (out, [((W 4294967296 l % v : Nat) : Int)]) ∧ Ok 4294967296 out ∧ out.length = l.length ∧ W 4294967296 out = W 4294967296 l / v := by
  obtain ⟨h1, h2, h3, h4⟩ := short1 l v hb hb2 ho l.length (0, List.replicate l.length 0) (Nat.le_refl _) (Ok.zeros (by decide) _) (by simp) (fun p _ => zeros_getD _ _) (by simp [W]) (by simp [W, W_zeros])
  refine ⟨_, ?_, h3, h4, h2⟩
  refine (top_call ..).trans ?_
  show H.shortF (l, (v : Int)) = _
  unfold H.shortF
  have hm := Nat.mod_lt (W 4294967296 l) hb
  rw [cT (by simp; omega)]
  unfold H.shortEnd H.shortSt
  rw [h1]
  generalize W 4294967296 l % v = R at hm ⊢
  rw [show ((R : Nat) : Int) % 4294967296 = (R : Int) by omega]
end Go.Proofs.YtpdfjgooaaailaaGreatDoor.P
namespace Go.Proofs.YtpdfjgooaaailaaGreatDoor.P
open Go Go.Proofs.YtpdfjgooaaailaaGreatDoor.K Go.Proofs.YtpdfjgooaaailaaGreatDoor.C
theorem bits_or_comm (k : IntKind) (x y : Int) : Go.bits .or k x y = Go.bits .or k y x := by simp only [Go.bits, BitVec.or_comm]
theorem W_digit {B : Nat} (hB : 0 < B) {l : List Int} (ho : Ok B l) : ∀ i, (l.getD i 0).toNat = W B l / B ^ i % B := by
  induction l with
  | nil => intro i; simp [W]
  | cons a l ih =>
    intro i
    have ha := ho a (List.mem_cons_self ..)
    cases i with
    | zero => simp only [List.getD_cons_zero, W, Nat.pow_zero, Nat.div_one]; rw [Nat.add_mul_mod_self_left, Nat.mod_eq_of_lt (by omega)]
    | succ i => rw [List.getD_cons_succ, ih (fun x hx => ho x (List.mem_cons_of_mem _ hx)) i, W, Nat.pow_succ', ← Nat.div_div_eq_div_mul, Nat.add_mul_div_left _ _ hB, Nat.div_eq_of_lt (a := a.toNat) (by omega), Nat.zero_add]
theorem tkset (out : List Int) (i : Nat) (v : Int) : (out.set i v).take i = out.take i := by rw [List.take_set, List.set_eq_of_length_le (by simp; omega)]
theorem W_tkset (B : Nat) (out : List Int) (i v : Nat) (h : i < out.length) : W B ((out.set i (v : Int)).take (i + 1)) = W B (out.take i) + B ^ i * v := by
  rw [W_take, tkset, getD_set_self _ _ _ h]; rfl
theorem shift_step (P w c u y s v c' B : Nat) (h : w + P * c = u * s) (hv : y * s + c = B * c' + v) : w + P * v + P * B * c' = (u + P * y) * s := by
  have : P * (y * s + c) = P * (B * c' + v) := by rw [hv]
  grind
theorem pw64 (n : Nat) (h : n ≤ 64) : (2 : Int) ^ min (n : Int).toNat IntKind.u64.bits = ((2 ^ n : Nat) : Int) := by
  rw [Int.toNat_natCast, Nat.min_eq_left (by simpa [IntKind.bits] using h)]; simp
theorem divShift1 (l : List Int) (ho : Ok 4294967296 l) (hl : l.length ≤ 1000000000) (s : Nat) (hs : s < 32) : ∀ (m i c : Nat) (out : List Int), i + m = l.length → out.length = l.length + 1 → Ok 4294967296 out → c < 2 ^ s →
    W 4294967296 (out.take i) + 4294967296 ^ i * c = W 4294967296 (l.take i) * 2 ^ s → ∃ r, divide_limbs_shifted_1 l (s : Int) (c : Int) l (l.length : Int) (i : Int) out = some r ∧ r.length = l.length + 1 ∧ Ok 4294967296 r ∧ W 4294967296 r = W 4294967296 l * 2 ^ s
  | 0, i, c, out, hi, hol, hoo, hc, hw => by
    obtain rfl : i = l.length := by omega
    have hp : 2 ^ s ≤ 2 ^ 31 := Nat.pow_le_pow_right (by decide) (by omega)
    refine ⟨out.set l.length (c : Int), ?_, by simp [hol], hoo.set _ (by omega) (by omega), ?_⟩
    · rw [divide_limbs_shifted_1_eq, cF (decide_eq_false (by omega)), cT (ix (by omega)), Int.toNat_natCast, wrapU32 (by omega) (by omega)]
    · rw [← W_all 4294967296 (out.set l.length (c : Int)) (l.length + 1) (by simp [hol]), W_tkset _ _ _ _ (by omega), hw, List.take_length]
  | m + 1, i, c, out, hi, hol, hoo, hc, hw => by
    have hp : 2 ^ s ≤ 2 ^ 31 := Nat.pow_le_pow_right (by decide) (by omega)
    have hx := ho.getD (by decide) i
    have n0 : l.getD i 0 = ((l.getD i 0).toNat : Int) := by omega
    have hpw := pw64 s (by omega)
    have hmod : (((2 ^ s : Nat) : Int)) = 2 ^ s := by simp
    generalize hy : (l.getD i 0).toNat = y at n0
    have hys : y * 2 ^ s ≤ 4294967295 * 2 ^ s := Nat.mul_le_mul_right _ (by omega)
    have e1 : bitop .or .u64 (IntKind.u64.wrap ((IntKind.u64.wrap (l.getD i 0)) * 2 ^ min (s : Int).toNat IntKind.u64.bits)) (c : Int) = ((y * 2 ^ s + c : Nat) : Int) := by
      rw [n0, wrapU64 (n := (y : Int)) (by omega) (by omega), hpw, ← Int.natCast_mul, wrapU64 (by omega) (by omega), or_u64 _ _ s (by omega) (by rw [← hmod, Int.natCast_mul]; exact Int.mul_emod_left ..) (by omega) (by omega) (by rw [← hmod]; omega) (by omega)]
      omega
    obtain ⟨r, h, hr⟩ := divShift1 l ho hl s hs m (i + 1) ((y * 2 ^ s + c) / 4294967296) (out.set i (((y * 2 ^ s + c) % 4294967296 : Nat) : Int)) (by omega) (by simp [hol]) (hoo.set _ (by omega) (by omega)) (by omega) (by
      rw [W_tkset _ _ _ _ (by omega), W_take, hy, Nat.pow_succ]
      exact shift_step (4294967296 ^ i) _ c _ y (2 ^ s) ((y * 2 ^ s + c) % 4294967296) ((y * 2 ^ s + c) / 4294967296) 4294967296 hw (by omega))
    refine ⟨r, ?_, hr⟩
    rw [divide_limbs_shifted_1_eq, cT (decide_eq_true (by omega)), cT (ix (by omega)), cT (decide_eq_true (by omega)), cT (ix (by omega)), cT (decide_eq_true (by decide)), Int.toNat_natCast, e1, p32, fd (by omega), wS (by omega), mod_u32,
      show ((y * 2 ^ s + c : Nat) : Int) / 4294967296 = (((y * 2 ^ s + c) / 4294967296 : Nat) : Int) by omega, show ((y * 2 ^ s + c : Nat) : Int) % 4294967296 = (((y * 2 ^ s + c) % 4294967296 : Nat) : Int) by omega]
    exact h
theorem divShift (l : List Int) (ho : Ok 4294967296 l) (hl : l.length ≤ 1000000000) (s : Nat) (hs : s < 32) : ∃ r, divide_limbs_shifted l (s : Int) = some r ∧ r.length = l.length + 1 ∧ Ok 4294967296 r ∧ W 4294967296 r = W 4294967296 l * 2 ^ s := by
  obtain ⟨r, h, hr⟩ := divShift1 l ho hl s hs l.length 0 0 (List.replicate (l.length + 1) 0) (Nat.zero_add _) (by simp) (Ok.zeros (by decide) _) (Nat.two_pow_pos s) (by simp [W])
  refine ⟨r, ?_, hr⟩
  rw [divide_limbs_shifted_eq, wS (by omega), cT (by simp; omega), Int.toNat_natCast]
  exact h
theorem back_digit (T s B t : Nat) (hs : s ≤ 32) (hB : B = 4294967296) : (T % (B * B)) / 2 ^ s % B = T / 2 ^ s % B := by
  have h1 := Nat.div_add_mod T (B * B)
  have h2 : B = 2 ^ s * 2 ^ (32 - s) := by rw [← Nat.pow_add, show s + (32 - s) = 32 by omega, hB]
  generalize T % (B * B) = x at *
  generalize T / (B * B) = t at *
  subst h1
  have : B * B * t + x = x + 2 ^ s * (B * (2 ^ (32 - s) * t)) := by
    have e : B * B * t = B * (2 ^ s * 2 ^ (32 - s)) * t := by rw [← h2]
    rw [e]; grind
  rw [this, Nat.add_mul_div_left _ _ (Nat.two_pow_pos s), Nat.add_mul_mod_self_left]
theorem divBack1 (l : List Int) (ho : Ok 4294967296 l) (hl : l.length ≤ 1000000000) (s : Nat) (hs : s < 32) : ∀ (m i : Nat) (out : List Int), i + m = l.length → out.length = l.length → Ok 4294967296 out →
    W 4294967296 (out.take i) = W 4294967296 l / 2 ^ s % 4294967296 ^ i → ∃ r, divide_limbs_back_1 l (s : Int) (l.length : Int) (i : Int) out = some r ∧ r.length = l.length ∧ Ok 4294967296 r ∧ W 4294967296 r = W 4294967296 l / 2 ^ s
  | 0, i, out, hi, hol, hoo, hw => by
    obtain rfl : i = l.length := by omega
    refine ⟨out, by rw [divide_limbs_back_1_eq, cF (decide_eq_false (by omega))], hol, hoo, ?_⟩
    rw [W_all _ _ _ (by omega), Nat.mod_eq_of_lt (Nat.lt_of_le_of_lt (Nat.div_le_self _ _) (W_lt ho))] at hw
    exact hw
  | m + 1, i, out, hi, hol, hoo, hw => by
    have hx := ho.getD (by decide) i
    have hx1 := ho.getD (by decide) (i + 1)
    have d0 := W_digit (by decide) ho i
    have d1 := W_digit (by decide) ho (i + 1)
    have n0 : l.getD i 0 = ((l.getD i 0).toNat : Int) := by omega
    have n1 : l.getD (i + 1) 0 = ((l.getD (i + 1) 0).toNat : Int) := by omega
    generalize hT : W 4294967296 l / 4294967296 ^ i = T at d0
    have hT1 : W 4294967296 l / 4294967296 ^ (i + 1) = T / 4294967296 := by rw [← hT, Nat.pow_succ, Nat.div_div_eq_div_mul]
    rw [hT1] at d1
    have hx2 : T % (4294967296 * 4294967296) = T % 4294967296 + 4294967296 * (T / 4294967296 % 4294967296) := Nat.mod_mul
    have hp : 1 ≤ 2 ^ s := Nat.one_le_two_pow
    have hpw := pw64 s (by omega)
    have fin : ∃ r, divide_limbs_back_2 l (s : Int) (i : Int) ((T % (4294967296 * 4294967296) : Nat) : Int) (l.length : Int) (i : Int) out = some r ∧ r.length = l.length ∧ Ok 4294967296 r ∧ W 4294967296 r = W 4294967296 l / 2 ^ s := by
      have hb := back_digit T s 4294967296 0 (by omega) rfl
      have hle : T % (4294967296 * 4294967296) / 2 ^ s ≤ T % (4294967296 * 4294967296) := Nat.div_le_self _ _
      obtain ⟨r, h, hr⟩ := divBack1 l ho hl s hs m (i + 1) (out.set i ((T / 2 ^ s % 4294967296 : Nat) : Int)) (by omega) (by simp [hol]) (hoo.set _ (by omega) (by omega)) (by
        rw [W_tkset _ _ _ _ (by omega), hw, Nat.mod_pow_succ, Nat.div_div_eq_div_mul (W 4294967296 l), Nat.mul_comm (2 ^ s), ← Nat.div_div_eq_div_mul, hT])
      refine ⟨r, ?_, hr⟩
      rw [divide_limbs_back_2_eq, cT (decide_eq_true (by omega)), cT (ix (by omega)), hpw, fd (by omega), ← Int.natCast_ediv, Int.toNat_natCast, mod_u32, wS (by omega), show ((T % (4294967296 * 4294967296) / 2 ^ s : Nat) : Int) % 4294967296 = ((T / 2 ^ s % 4294967296 : Nat) : Int) by omega]
      exact h
    obtain ⟨r, h, hr⟩ := fin
    refine ⟨r, ?_, hr⟩
    rw [divide_limbs_back_1_eq, cT (decide_eq_true (by omega)), cT (ix (by omega)), wS (by omega)]
    by_cases hlast : i + 1 < l.length
    · rw [cT (decide_eq_true (by omega)), cT (ix hlast), cT (decide_eq_true (by decide)), Int.toNat_natCast, Int.toNat_natCast, p32]
      have e : bitop .or .u64 (IntKind.u64.wrap (l.getD i 0)) (IntKind.u64.wrap (IntKind.u64.wrap (l.getD (i + 1) 0) * 4294967296)) = ((T % (4294967296 * 4294967296) : Nat) : Int) := by
        rw [bitop_or, bits_or_comm, ← bitop_or, n0, n1, wrapU64 (n := (((l.getD i 0).toNat : Nat) : Int)) (by omega) (by omega), wrapU64 (n := (((l.getD (i + 1) 0).toNat : Nat) : Int)) (by omega) (by omega), wrapU64 (by omega) (by omega), or_u64 _ _ 32 (by omega) (by omega) (by omega) (by omega) (by omega) (by omega)]
        omega
      rw [e]
      exact h
    · have hz : T / 4294967296 = 0 := by rw [← hT1]; exact Nat.div_eq_of_lt (by have := W_lt ho; rwa [show l.length = i + 1 by omega] at this)
      rw [cF (decide_eq_false (by omega)), Int.toNat_natCast, n0, wrapU64 (by omega) (by omega), show ((l.getD i 0).toNat : Int) = ((T % (4294967296 * 4294967296) : Nat) : Int) by omega]
      exact h
theorem divBack (l : List Int) (ho : Ok 4294967296 l) (hl : l.length ≤ 1000000000) (s : Nat) (hs : s < 32) : ∃ r, divide_limbs_back l (s : Int) = some r ∧ r.length = l.length ∧ Ok 4294967296 r ∧ W 4294967296 r = W 4294967296 l / 2 ^ s := by
  obtain ⟨r, h, hr⟩ := divBack1 l ho hl s hs l.length 0 (List.replicate l.length 0) (Nat.zero_add _) (by simp) (Ok.zeros (by decide) _) (by simp [W, Nat.mod_one])
  refine ⟨r, ?_, hr⟩
  rw [divide_limbs_back_eq, cT (by simp; omega), Int.toNat_natCast]
  exact h
theorem guess1 (third high low x : Nat) (h3 : third < 4294967296) (hh : high < 4294967296) (hh1 : 2147483648 ≤ high) (hlow : low < 4294967296) (hx : x < high * 4294967296 + 4294967296) : ∀ (q r : Nat), q * high + r = x → r < 4294967296 →
    min 4294967295 ((x * 4294967296 + third) / (high * 4294967296 + low)) ≤ q → q ≤ 4294967297 → divide_guess_1 (third : Int) (high : Int) (low : Int) (q : Int) (r : Int) = some ((min 4294967295 ((x * 4294967296 + third) / (high * 4294967296 + low)) : Nat) : Int)
  | q, r, hq, hr, hm, hb => by
    have hv : 0 < high * 4294967296 + low := by omega
    have le1 : ∀ p : Nat, p ≤ (x * 4294967296 + third) / (high * 4294967296 + low) ↔ p * high * 4294967296 + p * low ≤ x * 4294967296 + third := fun p => by
      rw [Nat.le_div_iff_mul_le hv, Nat.mul_add, Nat.mul_assoc]
    generalize hM : (x * 4294967296 + third) / (high * 4294967296 + low) = M at *
    have hor : bitop .or .u64 (IntKind.u64.wrap ((r : Int) * 2 ^ min 32 IntKind.u64.bits)) (third : Int) = ((r * 4294967296 + third : Nat) : Int) := by
      rw [p32, wrapU64 (by omega) (by omega), or_u64 _ _ 32 (by omega) (by omega) (by omega) (by omega) (by omega) (by omega)]; omega
    have stay : q ≤ M → q ≤ 4294967295 → (some (q : Int)) = some ((min 4294967295 M : Nat) : Int) := fun h1 h2 => by congr 1; omega
    have hqM := le1 q
    have go : (4294967295 < q ∨ M < q) → divide_guess_2 (third : Int) (high : Int) (low : Int) (q : Int) (r : Int) true = some ((min 4294967295 M : Nat) : Int) := by
      intro ht
      match q with
      | 0 => omega
      | q + 1 =>
        have ha : IntKind.u64.wrap ((r : Int) + (high : Int)) = ((r + high : Nat) : Int) := by rw [wrapU64 (by omega) (by omega)]; omega
        have hs : IntKind.u64.wrap (((q + 1 : Nat) : Int) - 1) = (q : Int) := by rw [wrapU64 (by omega) (by omega)]; omega
        have hq1 : q * high + (r + high) = x := by rw [Nat.succ_mul] at hq; omega
        rw [divide_guess_2_eq, cond_true, cT (decide_eq_true (by decide)), ha, hs, p32, fd (by omega)]
        by_cases hB : 4294967296 ≤ r + high
        · rw [cT (decide_eq_true (by omega))]
          have hq2 : q ≤ 4294967295 := by
            rcases Nat.lt_or_ge 4294967295 q with h | h
            · have := Nat.mul_le_mul_right high (show 4294967296 ≤ q from h)
              omega
            · exact h
          have h4 : q * low ≤ 4294967295 * low := Nat.mul_le_mul_right _ hq2
          have := (le1 q).2 (by omega)
          congr 1
          omega
        · rw [cF (decide_eq_false (by omega))]
          rw [← hM]
          exact guess1 third high low x h3 hh hh1 hlow hx q (r + high) hq1 (by omega) (by rw [hM]; omega) (by omega)
    rw [divide_guess_1_eq, cT (decide_eq_true (by decide)), p32, fd (by omega)]
    by_cases hbig : 4294967296 ≤ q
    · rw [cT (decide_eq_true (by omega))]
      exact go (.inl (by omega))
    · have hql : q * low ≤ 4294967295 * low := Nat.mul_le_mul_right _ (by omega)
      rw [cF (decide_eq_false (by omega)), cT (decide_eq_true (by decide)), ← p32, hor, ← Int.natCast_mul, wrapU64 (by omega) (by omega)]
      by_cases ht : r * 4294967296 + third < q * low
      · rw [decide_eq_true (show ((q * low : Nat) : Int) > ((r * 4294967296 + third : Nat) : Int) by omega)]
        exact go (.inr (by
          rcases Nat.lt_or_ge M q with h | h
          · exact h
          · have := hqM.1 h; omega))
      · rw [decide_eq_false (show ¬ ((q * low : Nat) : Int) > ((r * 4294967296 + third : Nat) : Int) by omega), divide_guess_2_eq, cond_false]
        exact stay (hqM.2 (by omega)) (by omega)
theorem divGuess (top next third high low : Nat) (h1 : top ≤ high) (h2 : next < 4294967296) (h3 : third < 4294967296) (hh : high < 4294967296) (hh1 : 2147483648 ≤ high) (hlow : low < 4294967296) :
    divide_guess (top : Int) (next : Int) (third : Int) (high : Int) (low : Int) = some ((min 4294967295 (((top * 4294967296 + next) * 4294967296 + third) / (high * 4294967296 + low)) : Nat) : Int) := by
  have hor : bitop .or .u64 (IntKind.u64.wrap ((top : Int) * 2 ^ min 32 IntKind.u64.bits)) (next : Int) = ((top * 4294967296 + next : Nat) : Int) := by
    rw [p32, wrapU64 (by omega) (by omega), or_u64 _ _ 32 (by omega) (by omega) (by omega) (by omega) (by omega) (by omega)]; omega
  have hx : top * 4294967296 + next < high * 4294967296 + 4294967296 := by omega
  obtain ⟨x, hxe⟩ : ∃ x, x = top * 4294967296 + next := ⟨_, rfl⟩
  rw [← hxe] at hor hx ⊢
  have hd := Nat.div_add_mod x high
  have hm := Nat.mod_lt x (show 0 < high by omega)
  have hq : x / high < 4294967298 := (Nat.div_lt_iff_lt_mul (by omega)).2 (by omega)
  have hM : (x * 4294967296 + third) / (high * 4294967296 + low) ≤ x / high := by
    refine Nat.lt_succ_iff.1 ((Nat.div_lt_iff_lt_mul (by omega)).2 ?_)
    rw [Nat.succ_mul, Nat.mul_add, ← Nat.mul_assoc, Nat.mul_comm (x / high) high]
    omega
  have hz : (!decide ((high : Int) = 0)) = true := by rw [decide_eq_false (by omega)]; rfl
  have e1 : (x : Int).tdiv (high : Int) = ((x / high : Nat) : Int) := by rw [Int.tdiv_eq_ediv_of_nonneg (by omega), ← Int.natCast_ediv]
  have e2 : (x : Int).tmod (high : Int) = ((x % high : Nat) : Int) := by rw [Int.tmod_eq_emod_of_nonneg (by omega), ← Int.natCast_emod]
  have hg := guess1 third high low x h3 hh hh1 hlow hx (x / high) (x % high) (by rw [Nat.mul_comm]; exact hd) (Nat.lt_trans hm hh) (Nat.le_trans (Nat.min_le_right ..) hM) (Nat.le_of_lt_succ hq)
  rw [divide_guess_eq, cT (decide_eq_true (by decide)), cT hz, cT hz, hor, e1, e2]
  generalize x / high = q at hg hq
  rw [wrapU64 (by omega) (by omega)]
  exact hg
theorem knuth (P u3 U' v2 V' : Nat) (hU : U' < P) (hV : V' < P) (hlt : u3 * P + U' < (v2 * P + V') * 4294967296) (hv : 4294967296 ≤ v2) :
    (u3 * P + U') / (v2 * P + V') ≤ min 4294967295 (u3 / v2) ∧ min 4294967295 (u3 / v2) ≤ (u3 * P + U') / (v2 * P + V') + 1 := by
  have hP : 0 < P := by omega
  have hpos : 0 < v2 * P + V' := Nat.lt_of_lt_of_le (Nat.mul_pos (by omega) hP) (Nat.le_add_right ..)
  have hQ := Nat.div_mul_le_self (u3 * P + U') (v2 * P + V')
  have hQ2 : (u3 * P + U') / (v2 * P + V') < 4294967296 := (Nat.div_lt_iff_lt_mul hpos).2 (by omega)
  constructor
  · have : (u3 * P + U') / (v2 * P + V') ≤ u3 / v2 := by
      rw [Nat.le_div_iff_mul_le (by omega)]
      generalize (u3 * P + U') / (v2 * P + V') = Q at *
      have h1 : Q * v2 * P < (u3 + 1) * P := by rw [Nat.mul_add, ← Nat.mul_assoc] at hQ; rw [Nat.succ_mul]; omega
      exact Nat.lt_succ_iff.1 (Nat.lt_of_mul_lt_mul_right h1)
    omega
  · cases hq : min 4294967295 (u3 / v2) with
    | zero => exact Nat.zero_le _
    | succ p =>
      have h1 : (p + 1) * v2 ≤ u3 := (Nat.le_div_iff_mul_le (by omega)).1 (by omega)
      have : p ≤ (u3 * P + U') / (v2 * P + V') := by
        rw [Nat.le_div_iff_mul_le hpos, Nat.mul_add, ← Nat.mul_assoc]
        have h2 : p * V' ≤ p * P := Nat.mul_le_mul_left _ (by omega)
        have h3 : (p * v2 + p) * P ≤ u3 * P := Nat.mul_le_mul_right _ (by rw [Nat.succ_mul] at h1; omega)
        rw [Nat.add_mul] at h3
        omega
      exact Nat.succ_le_succ this
end Go.Proofs.YtpdfjgooaaailaaGreatDoor.P
namespace Go.Proofs.YtpdfjgooaaailaaGreatDoor.P
open Go Go.Proofs.YtpdfjgooaaailaaGreatDoor.K Go.Proofs.YtpdfjgooaaailaaGreatDoor.C
theorem W_take_lt {B : Nat} (hB : 0 < B) {l : List Int} (ho : Ok B l) (j : Nat) (h : W B l < B ^ j) : W B (l.take j) = W B l := by
  by_cases hj : j ≤ l.length
  · have h1 := W_split B l j hj
    rcases Nat.eq_zero_or_pos (W B (l.drop j)) with h0 | h0
    · rw [h0] at h1; omega
    · have : B ^ j * 1 ≤ B ^ j * W B (l.drop j) := Nat.mul_le_mul_left _ h0
      omega
  · rw [List.take_of_length_le (by omega)]
theorem W_above {B : Nat} (hB : 0 < B) {l : List Int} (ho : Ok B l) (j p : Nat) (h : W B l < B ^ j) (hp : j ≤ p) : l.getD p 0 = 0 := by
  have h1 := W_digit hB ho p
  have h2 : B ^ j ≤ B ^ p := Nat.pow_le_pow_right hB hp
  rw [Nat.div_eq_of_lt (by omega), Nat.zero_mod] at h1
  have := ho.getD hB p
  omega
theorem W_lt_above {B : Nat} (hB : 0 < B) {l : List Int} (ho : Ok B l) (j : Nat) (h : ∀ p, j ≤ p → l.getD p 0 = 0) : W B l < B ^ j := by
  have key : ∀ k, W B (l.take (j + k)) = W B (l.take j) := by
    intro k
    induction k with
    | zero => rfl
    | succ k ih => rw [← Nat.add_assoc, W_take, ih, h (j + k) (by omega)]; simp
  have h1 := key l.length
  rw [W_all B l _ (by omega)] at h1
  have h2 := W_lt (ho.take j)
  have h3 : B ^ (l.take j).length ≤ B ^ j := Nat.pow_le_pow_right hB (by simp; omega)
  omega
theorem take_step (P At Bi w w' w0 q m mi c b r v pm c' b' B : Nat) (hP : P = At * Bi) (h : w + At * (q * m) = w0 + P * (c + b)) (hset : w' + P * r = w + P * v) (hp : q * mi + c = B * c' + pm) (hn : v + pm + b = r + B * b') :
    w' + At * (q * (m + Bi * mi)) = w0 + P * B * (c' + b') := by
  subst hP
  have e1 : At * Bi * (q * mi + c) = At * Bi * (B * c' + pm) := by rw [hp]
  have e2 : At * Bi * (v + pm + b) = At * Bi * (r + B * b') := by rw [hn]
  have : w' + At * (q * (m + Bi * mi)) + At * Bi * r + At * Bi * c + At * Bi * b + At * Bi * pm = w0 + At * Bi * B * (c' + b') + At * Bi * r + At * Bi * c + At * Bi * b + At * Bi * pm := by grind
  omega
theorem take_last (P w w' w0 x c b r v neg B : Nat) (h : w + x = w0 + P * (c + b)) (hset : w' + P * r = w + P * v) (hn : v + c + b = r + B * neg) : w' + x = w0 + P * B * neg := by
  have e2 : P * (v + c + b) = P * (r + B * neg) := by rw [hn]
  have : w' + x + P * r + P * c + P * b = w0 + P * B * neg + P * r + P * c + P * b := by grind
  omega
theorem p63 : (2 : Int) ^ min 63 IntKind.u64.bits = 9223372036854775808 := rfl
theorem divTake (m : List Int) (hm : Ok 4294967296 m) (q : Nat) (hq : q < 4294967296) (at_ : Nat) (rest0 out m2 : List Int) (by_ n2 at2 q2 : Int) (hlen : at_ + m.length < rest0.length) (hl : rest0.length ≤ 2000000000) :
    ∀ (k i c b : Nat) (rest : List Int), i + k = m.length → rest.length = rest0.length → Ok 4294967296 rest → c < 4294967296 → b ≤ 1 → (∀ p, at_ + i ≤ p → rest.getD p 0 = rest0.getD p 0) →
      W 4294967296 rest + 4294967296 ^ at_ * (q * W 4294967296 (m.take i)) = W 4294967296 rest0 + 4294967296 ^ (at_ + i) * (c + b) →
      ∃ (rest' : List Int) (neg : Nat), rest'.length = rest0.length ∧ Ok 4294967296 rest' ∧ (∀ p, at_ + m.length < p → rest'.getD p 0 = rest0.getD p 0) ∧ neg ≤ 1 ∧
        W 4294967296 rest' + 4294967296 ^ at_ * (q * W 4294967296 m) = W 4294967296 rest0 + 4294967296 ^ (at_ + m.length + 1) * neg ∧
        divide_limbs_long_3 m (q : Int) (at_ : Int) (c : Int) (b : Int) (m.length : Int) (i : Int) rest out m2 by_ n2 at2 q2 =
          cond (decide (neg = 1)) (divide_limbs_long_4 m2 at2 rest' out m2 by_ n2 at2 (IntKind.u64.wrap (q2 - 1)))
            (cond (decide (0 ≤ at2) && decide (at2 < (out.length : Int))) (divide_limbs_long_1 m2 by_ n2 (IntKind.i64.wrap (at2 - 1)) rest' (out.set at2.toNat (IntKind.u32.wrap q2))) none)
  | 0, i, c, b, rest, hi, hr, ho, hc, hb, hsame, hw => by
    obtain rfl : i = m.length := by omega
    have hx := ho.getD (by decide) (at_ + m.length)
    have n0 : rest.getD (at_ + m.length) 0 = ((rest.getD (at_ + m.length) 0).toNat : Int) := by omega
    generalize hy : (rest.getD (at_ + m.length) 0).toNat = r at n0
    have en : IntKind.u64.wrap (IntKind.u64.wrap (IntKind.u64.wrap (r : Int) - (c : Int)) - (b : Int)) = ((r : Int) - c - b) % 18446744073709551616 := by
      rw [wrapU64 (n := (r : Int)) (by omega) (by omega), mod_u64, mod_u64]; omega
    have hset := fun v : Nat => W_set' 4294967296 rest (at_ + m.length) v (by omega)
    simp only [hy] at hset
    rw [List.take_length] at hw
    by_cases hneg : r < c + b
    · refine ⟨rest.set (at_ + m.length) ((r + 4294967296 - c - b : Nat) : Int), 1, by simp [hr], ho.set _ (by omega) (by omega), fun p hp => by rw [getD_set_ne _ _ _ _ (by omega)]; exact hsame p (by omega), by omega, ?_, ?_⟩
      · rw [Nat.pow_succ]
        exact take_last (4294967296 ^ (at_ + m.length)) _ _ _ _ c b r (r + 4294967296 - c - b) 1 4294967296 hw (hset _) (by omega)
      · rw [divide_limbs_long_3_eq, cF (decide_eq_false (by omega)), wA (by omega), cT (ix (by omega)), cT (ix (by omega)), cT (decide_eq_true (by decide)), Int.toNat_natCast, n0, en, p63, fd (by omega), mod_u32]
        have e1 : ((r : Int) - c - b) % 18446744073709551616 / 9223372036854775808 = 1 := by omega
        have e2 : ((r : Int) - c - b) % 18446744073709551616 % 4294967296 = ((r + 4294967296 - c - b : Nat) : Int) := by omega
        rw [e1, e2, cT (by rfl), cT (by rfl)]
    · refine ⟨rest.set (at_ + m.length) ((r - c - b : Nat) : Int), 0, by simp [hr], ho.set _ (by omega) (by omega), fun p hp => by rw [getD_set_ne _ _ _ _ (by omega)]; exact hsame p (by omega), by omega, ?_, ?_⟩
      · rw [Nat.pow_succ]
        exact take_last (4294967296 ^ (at_ + m.length)) _ _ _ _ c b r (r - c - b) 0 4294967296 hw (hset _) (by omega)
      · rw [divide_limbs_long_3_eq, cF (decide_eq_false (by omega)), wA (by omega), cT (ix (by omega)), cT (ix (by omega)), cT (decide_eq_true (by decide)), Int.toNat_natCast, n0, en, p63, fd (by omega), mod_u32]
        have e1 : ((r : Int) - c - b) % 18446744073709551616 / 9223372036854775808 = 0 := by omega
        have e2 : ((r : Int) - c - b) % 18446744073709551616 % 4294967296 = ((r - c - b : Nat) : Int) := by omega
        rw [e1, e2, cF (c := !(decide ((0 : Int) = 0))) (by rfl), cF (c := decide (0 = 1)) (by rfl)]
  | k + 1, i, c, b, rest, hi, hr, ho, hc, hb, hsame, hw => by
    have hx := ho.getD (by decide) (at_ + i)
    have hmx := hm.getD (by decide) i
    have n0 : rest.getD (at_ + i) 0 = ((rest.getD (at_ + i) 0).toNat : Int) := by omega
    have n1 : m.getD i 0 = ((m.getD i 0).toNat : Int) := by omega
    generalize hy : (rest.getD (at_ + i) 0).toNat = r at n0
    generalize hd : (m.getD i 0).toNat = d at n1
    have hqd := le_mul_pred (a := q) (b := d) (B := 4294967296) hq (by omega)
    have ep : IntKind.u64.wrap (IntKind.u64.wrap ((q : Int) * IntKind.u64.wrap (m.getD i 0)) + (c : Int)) = ((q * d + c : Nat) : Int) := by
      rw [n1, wrapU64 (n := (d : Int)) (by omega) (by omega), ← Int.natCast_mul, wrapU64 (n := ((q * d : Nat) : Int)) (by omega) (by omega), wrapU64 (by omega) (by omega)]; omega
    generalize hp : q * d + c = pr at ep
    have hpr : pr < 18446744073709551616 := by omega
    have en : IntKind.u64.wrap (IntKind.u64.wrap (IntKind.u64.wrap (r : Int) - ((pr : Int) % 4294967296)) - (b : Int)) = ((r : Int) - pr % 4294967296 - b) % 18446744073709551616 := by
      rw [wrapU64 (n := (r : Int)) (by omega) (by omega), mod_u64, mod_u64]; omega
    have hset := fun v : Nat => W_set' 4294967296 rest (at_ + i) v (by omega)
    simp only [hy] at hset
    obtain ⟨v, b', hv, hb', hn, e1, e2⟩ : ∃ v b' : Nat, v < 4294967296 ∧ b' ≤ 1 ∧ v + pr % 4294967296 + b = r + 4294967296 * b' ∧ ((r : Int) - pr % 4294967296 - b) % 18446744073709551616 / 9223372036854775808 = (b' : Int) ∧ ((r : Int) - pr % 4294967296 - b) % 18446744073709551616 % 4294967296 = (v : Int) := by
      by_cases hneg : r < pr % 4294967296 + b
      · exact ⟨r + 4294967296 - pr % 4294967296 - b, 1, by omega, by omega, by omega, by omega, by omega⟩
      · exact ⟨r - pr % 4294967296 - b, 0, by omega, by omega, by omega, by omega, by omega⟩
    obtain ⟨rest', neg, g1, g2, g3, g4, g5, g6⟩ := divTake m hm q hq at_ rest0 out m2 by_ n2 at2 q2 hlen hl k (i + 1) (pr / 4294967296) b' (rest.set (at_ + i) (v : Int)) (by omega) (by simp [hr]) (ho.set _ (by omega) (by omega)) (by omega) hb'
      (fun p hp => by rw [getD_set_ne _ _ _ _ (by omega)]; exact hsame p (by omega)) (by
        rw [W_take, hd, ← Nat.add_assoc, Nat.pow_succ]
        exact take_step _ (4294967296 ^ at_) (4294967296 ^ i) _ _ _ q _ d c b r v (pr % 4294967296) _ b' 4294967296 (Nat.pow_add ..) hw (hset v) (by omega) hn)
    refine ⟨rest', neg, g1, g2, g3, g4, g5, ?_⟩
    rw [divide_limbs_long_3_eq, cT (decide_eq_true (by omega)), cT (ix (by omega)), cT (decide_eq_true (by decide)), wA (by omega), cT (ix (by omega)), cT (ix (by omega)), cT (decide_eq_true (by decide)), Int.toNat_natCast, Int.toNat_natCast, ep, and_u64w _ (by omega) (by omega), n0, en, p63, p32, fd (by omega), fd (by omega), mod_u32, e1, e2, wS (by omega),
      show (pr : Int) / 4294967296 = ((pr / 4294967296 : Nat) : Int) by omega]
    exact g6
theorem give_step (P At Bi w w' w0 m mi c r v c' B : Nat) (hP : P = At * Bi) (h : w + P * c = w0 + At * m) (hset : w' + P * r = w + P * v) (hn : r + mi + c = B * c' + v) :
    w' + P * B * c' = w0 + At * (m + Bi * mi) := by
  subst hP
  have e1 : At * Bi * (r + mi + c) = At * Bi * (B * c' + v) := by rw [hn]
  have : w' + At * Bi * B * c' + At * Bi * r + At * Bi * c + At * Bi * v = w0 + At * (m + Bi * mi) + At * Bi * r + At * Bi * c + At * Bi * v := by grind
  omega
theorem give_last (P w w' w0 x c r v o B : Nat) (h : w + P * c = w0 + x) (hset : w' + P * r = w + P * v) (hn : r + c = B * o + v) : w' + P * B * o = w0 + x := by
  have e1 : P * (r + c) = P * (B * o + v) := by rw [hn]
  have : w' + P * B * o + P * r + P * c + P * v = w0 + x + P * r + P * c + P * v := by grind
  omega
theorem divGive (m : List Int) (hm : Ok 4294967296 m) (at_ : Nat) (rest0 out m2 : List Int) (by_ n2 at2 q2 : Int) (hlen : at_ + m.length < rest0.length) (hl : rest0.length ≤ 2000000000) :
    ∀ (k i c : Nat) (rest : List Int), i + k = m.length → rest.length = rest0.length → Ok 4294967296 rest → c ≤ 1 → (∀ p, at_ + i ≤ p → rest.getD p 0 = rest0.getD p 0) →
      W 4294967296 rest + 4294967296 ^ (at_ + i) * c = W 4294967296 rest0 + 4294967296 ^ at_ * W 4294967296 (m.take i) →
      ∃ (rest' : List Int) (o : Nat), rest'.length = rest0.length ∧ Ok 4294967296 rest' ∧ (∀ p, at_ + m.length < p → rest'.getD p 0 = rest0.getD p 0) ∧ o ≤ 1 ∧
        W 4294967296 rest' + 4294967296 ^ (at_ + m.length + 1) * o = W 4294967296 rest0 + 4294967296 ^ at_ * W 4294967296 m ∧
        divide_limbs_long_5 m (at_ : Int) (c : Int) (m.length : Int) (i : Int) rest out m2 by_ n2 at2 q2 =
            (cond (decide (0 ≤ at2) && decide (at2 < (out.length : Int))) (divide_limbs_long_1 m2 by_ n2 (IntKind.i64.wrap (at2 - 1)) rest' (out.set at2.toNat (IntKind.u32.wrap q2))) none)
  | 0, i, c, rest, hi, hr, ho, hc, hsame, hw => by
    obtain rfl : i = m.length := by omega
    have hx := ho.getD (by decide) (at_ + m.length)
    have n0 : rest.getD (at_ + m.length) 0 = ((rest.getD (at_ + m.length) 0).toNat : Int) := by omega
    generalize hy : (rest.getD (at_ + m.length) 0).toNat = r at n0
    have en : IntKind.u32.wrap ((r : Int) + IntKind.u32.wrap (c : Int)) = (((r + c) % 4294967296 : Nat) : Int) := by
      rw [wrapU32 (n := (c : Int)) (by omega) (by omega), mod_u32]; omega
    have hset := fun v : Nat => W_set' 4294967296 rest (at_ + m.length) v (by omega)
    simp only [hy] at hset
    rw [List.take_length] at hw
    refine ⟨rest.set (at_ + m.length) (((r + c) % 4294967296 : Nat) : Int), (r + c) / 4294967296, by simp [hr], ho.set _ (by omega) (by omega), fun p hp => by rw [getD_set_ne _ _ _ _ (by omega)]; exact hsame p (by omega), by omega, ?_, ?_⟩
    · rw [Nat.pow_succ]
      exact give_last (4294967296 ^ (at_ + m.length)) _ _ _ _ c r ((r + c) % 4294967296) _ 4294967296 hw (hset _) (by omega)
    · rw [divide_limbs_long_5_eq, cF (decide_eq_false (by omega)), wA (by omega), cT (ix (by omega)), cT (ix (by omega)), Int.toNat_natCast, n0, en]
  | k + 1, i, c, rest, hi, hr, ho, hc, hsame, hw => by
    have hx := ho.getD (by decide) (at_ + i)
    have hmx := hm.getD (by decide) i
    have n0 : rest.getD (at_ + i) 0 = ((rest.getD (at_ + i) 0).toNat : Int) := by omega
    have n1 : m.getD i 0 = ((m.getD i 0).toNat : Int) := by omega
    generalize hy : (rest.getD (at_ + i) 0).toNat = r at n0
    generalize hd : (m.getD i 0).toNat = d at n1
    have en : IntKind.u64.wrap (IntKind.u64.wrap (IntKind.u64.wrap (r : Int) + IntKind.u64.wrap (d : Int)) + (c : Int)) = ((r + d + c : Nat) : Int) := by
      rw [wrapU64 (n := (r : Int)) (by omega) (by omega), wrapU64 (n := (d : Int)) (by omega) (by omega), wrapU64 (n := (r : Int) + (d : Int)) (by omega) (by omega), wrapU64 (by omega) (by omega)]; omega
    have hset := W_set' 4294967296 rest (at_ + i) ((r + d + c) % 4294967296) (by omega)
    rw [hy] at hset
    obtain ⟨rest', o, g1, g2, g3, g4, g5, g6⟩ := divGive m hm at_ rest0 out m2 by_ n2 at2 q2 hlen hl k (i + 1) ((r + d + c) / 4294967296) (rest.set (at_ + i) (((r + d + c) % 4294967296 : Nat) : Int)) (by omega) (by simp [hr]) (ho.set _ (by omega) (by omega)) (by omega)
        (fun p hp => by rw [getD_set_ne _ _ _ _ (by omega)]; exact hsame p (by omega)) (by
          rw [W_take, hd, ← Nat.add_assoc, Nat.pow_succ]
          exact give_step _ (4294967296 ^ at_) (4294967296 ^ i) _ _ _ _ d c r ((r + d + c) % 4294967296) _ 4294967296 (Nat.pow_add ..) hw hset (by omega))
    refine ⟨rest', o, g1, g2, g3, g4, g5, ?_⟩
    rw [divide_limbs_long_5_eq, cT (decide_eq_true (by omega)), wA (by omega), cT (ix (by omega)), cT (ix (by omega)), cT (ix (by omega)), cT (decide_eq_true (by decide)), Int.toNat_natCast, Int.toNat_natCast, n0, n1, en, p32, fd (by omega), mod_u32, wS (by omega),
      show ((r + d + c : Nat) : Int) / 4294967296 = (((r + d + c) / 4294967296 : Nat) : Int) by omega, show ((r + d + c : Nat) : Int) % 4294967296 = (((r + d + c) % 4294967296 : Nat) : Int) by omega]
    exact g6
end Go.Proofs.YtpdfjgooaaailaaGreatDoor.P
namespace Go.Proofs.YtpdfjgooaaailaaGreatDoor.P
open Go Go.Proofs.YtpdfjgooaaailaaGreatDoor.K Go.Proofs.YtpdfjgooaaailaaGreatDoor.C
theorem div_of_sub (U R V E : Nat) (hV : 0 < V) (h : U = R + V * E) : U / V = R / V + E ∧ U % V = R % V := by
  subst h
  exact ⟨Nat.add_mul_div_left _ _ hV, Nat.add_mul_mod_self_left ..⟩
theorem le_of_mul_lt {q Q D U : Nat} (h : q * D ≤ U) (h2 : U < (Q + 1) * D) : q ≤ Q := by
  have : q * D < (Q + 1) * D := Nat.lt_of_le_of_lt h h2
  exact Nat.lt_succ_iff.1 (Nat.lt_of_mul_lt_mul_right this)
theorem top_le (top next third high low P U' V' : Nat) (h : ((top * 4294967296 + next) * 4294967296 + third) * P + U' < ((high * 4294967296 + low) * P + V') * 4294967296) (hV : V' < P) (hlow : low < 4294967296) : top ≤ high := by
  have h1 : ((top * 4294967296 + next) * 4294967296 + third) * P < ((high * 4294967296 + low + 1) * 4294967296) * P := by
    have e : ((high * 4294967296 + low + 1) * 4294967296) * P = ((high * 4294967296 + low) * P + P) * 4294967296 := by rw [Nat.mul_right_comm, Nat.succ_mul]
    rw [e]; omega
  have := Nat.lt_of_mul_lt_mul_right h1
  omega
theorem eU_plain (U P t n p B : Nat) : U + P * t + P * B * n + P * B * B * p = ((p * B + n) * B + t) * P + U := by grind
theorem eD_plain (V Pk Pn l h B : Nat) : (V + Pn * l + Pn * B * h) * Pk = (h * B + l) * (Pk * Pn) + V * Pk := by grind
set_option maxHeartbeats 1000000 in
theorem divDigit (m rest : List Int) (hm : Ok 4294967296 m) (n k : Nat) (hmn : m.length = n + 2) (hh : 2147483648 ≤ (m.getD (n + 1) 0).toNat) (ho : Ok 4294967296 rest) (hr : k + n + 2 < rest.length) (hw : W 4294967296 rest < W 4294967296 m * 4294967296 ^ (k + 1)) :
    ∃ q : Nat, q < 4294967296 ∧ divide_guess (rest.getD (k + n + 2) 0) (rest.getD (k + n + 1) 0) (rest.getD (k + n) 0) (m.getD (n + 1) 0) (m.getD n 0) = some (q : Int) ∧
      W 4294967296 rest / (W 4294967296 m * 4294967296 ^ k) ≤ q ∧ q ≤ W 4294967296 rest / (W 4294967296 m * 4294967296 ^ k) + 1 ∧ W 4294967296 rest < 4294967296 ^ (k + n + 3) ∧ 0 < W 4294967296 m * 4294967296 ^ k := by
  have hVlt := W_lt hm
  rw [hmn] at hVlt
  have d0 := ho.getD (by decide) (k + n)
  have d1 := ho.getD (by decide) (k + n + 1)
  have d2 := ho.getD (by decide) (k + n + 2)
  have m0 := hm.getD (by decide) n
  have m1 := hm.getD (by decide) (n + 1)
  have hUT : W 4294967296 rest < 4294967296 ^ (k + n + 3) := by
    refine Nat.lt_of_lt_of_le hw ?_
    rw [show k + n + 3 = (n + 2) + (k + 1) by omega, Nat.pow_add 4294967296 (n + 2) (k + 1)]
    exact Nat.mul_le_mul_right _ (Nat.le_of_lt hVlt)
  have hUs := W_take_lt (by decide) ho (k + n + 3) hUT
  rw [W_take, W_take, W_take] at hUs
  have hVs := W_all 4294967296 m (n + 2) (by omega)
  rw [W_take, W_take] at hVs
  have hU' := W_lt (ho.take (k + n))
  rw [List.length_take, Nat.min_eq_left (by omega)] at hU'
  have hV' := W_lt (hm.take n)
  rw [List.length_take, Nat.min_eq_left (by omega)] at hV'
  have hwD : W 4294967296 rest < W 4294967296 m * 4294967296 ^ k * 4294967296 := by rw [Nat.pow_succ, ← Nat.mul_assoc] at hw; exact hw
  have b0 : rest.getD (k + n) 0 = ((rest.getD (k + n) 0).toNat : Int) := by omega
  have b1 : rest.getD (k + n + 1) 0 = ((rest.getD (k + n + 1) 0).toNat : Int) := by omega
  have b2 : rest.getD (k + n + 2) 0 = ((rest.getD (k + n + 2) 0).toNat : Int) := by omega
  have c0 : m.getD n 0 = ((m.getD n 0).toNat : Int) := by omega
  have c1 : m.getD (n + 1) 0 = ((m.getD (n + 1) 0).toNat : Int) := by omega
  have t1 : (rest.getD (k + n + 1) 0).toNat < 4294967296 := by omega
  have t0 : (rest.getD (k + n) 0).toNat < 4294967296 := by omega
  have l0 : (m.getD n 0).toNat < 4294967296 := by omega
  have l1 : (m.getD (n + 1) 0).toNat < 4294967296 := by omega
  clear d0 d1 d2 m0 m1
  rw [b0, b1, b2, c0, c1]
  clear b0 b1 b2 c0 c1
  generalize W 4294967296 (rest.take (k + n)) = U' at *
  generalize W 4294967296 (m.take n) = V' at *
  generalize (rest.getD (k + n) 0).toNat = third at *
  generalize (rest.getD (k + n + 1) 0).toNat = next at *
  generalize (rest.getD (k + n + 2) 0).toNat = top at *
  generalize (m.getD n 0).toNat = low at *
  generalize (m.getD (n + 1) 0).toNat = high at *
  generalize W 4294967296 rest = U at *
  generalize W 4294967296 m = V at *
  have eP : 4294967296 ^ (k + n) = 4294967296 ^ k * 4294967296 ^ n := Nat.pow_add ..
  have eU : U = ((top * 4294967296 + next) * 4294967296 + third) * 4294967296 ^ (k + n) + U' := by
    rw [← hUs, show 4294967296 ^ (k + n + 2) = 4294967296 ^ (k + n) * 4294967296 * 4294967296 by rw [Nat.pow_succ, Nat.pow_succ], show 4294967296 ^ (k + n + 1) = 4294967296 ^ (k + n) * 4294967296 by rw [Nat.pow_succ]]
    exact eU_plain ..
  have eD : V * 4294967296 ^ k = (high * 4294967296 + low) * 4294967296 ^ (k + n) + V' * 4294967296 ^ k := by
    rw [← hVs, show 4294967296 ^ (n + 1) = 4294967296 ^ n * 4294967296 by rw [Nat.pow_succ], eP]
    exact eD_plain ..
  have hV'' : V' * 4294967296 ^ k < 4294967296 ^ (k + n) := by
    rw [eP, Nat.mul_comm]
    exact Nat.mul_lt_mul_of_pos_left hV' (Nat.pow_pos (by decide))
  have hPpos : 0 < 4294967296 ^ (k + n) := Nat.pow_pos (by decide)
  clear hVs hUs hw hV' eP hVlt
  have hlt := hwD
  rw [eU, eD] at hlt
  rw [eD, eU]
  rw [eU] at hUT
  clear eU eD hwD
  generalize V' * 4294967296 ^ k = V'' at *
  generalize 4294967296 ^ (k + n) = P at *
  have htop := top_le top next third high low _ U' _ hlt hV'' l0
  have hk1 := knuth P _ U' (high * 4294967296 + low) V'' hU' hV'' hlt (by omega)
  have hg := divGuess top next third high low htop t1 t0 l1 hh l0
  exact ⟨_, Nat.lt_of_le_of_lt (Nat.min_le_left _ _) (by decide), hg, hk1.1, hk1.2, hUT, Nat.lt_of_lt_of_le (Nat.mul_pos (by omega) hPpos) (Nat.le_add_right ..)⟩
set_option maxHeartbeats 1000000 in
theorem divLong1 (m : List Int) (hm : Ok 4294967296 m) (n : Nat) (hmn : m.length = n + 2) (hn : n ≤ 900000000) (hh : 2147483648 ≤ (m.getD (n + 1) 0).toNat) (s : Nat) (hs : s < 32) (Lr : Nat) (hL : Lr ≤ 2000000000) : ∀ (k : Nat) (rest out : List Int),
    k + (n + 2) ≤ Lr → rest.length = Lr → Ok 4294967296 rest → Ok 4294967296 out → k ≤ out.length → out.length ≤ Lr → (∀ p, p < k → out.getD p 0 = 0) → W 4294967296 rest < W 4294967296 m * 4294967296 ^ k →
    ∃ o r, divide_limbs_long_1 m (s : Int) ((n + 2 : Nat) : Int) ((k : Int) - 1) rest out = some (o, r) ∧ Ok 4294967296 o ∧ o.length = out.length ∧ Ok 4294967296 r ∧ r.length = n + 2 ∧ W 4294967296 o = W 4294967296 out + W 4294967296 rest / W 4294967296 m ∧ W 4294967296 r = W 4294967296 rest % W 4294967296 m / 2 ^ s
  | 0, rest, out, hk, hr, ho, hoo, hko, hol, hz, hw => by
    have hVlt := W_lt hm
    rw [hmn] at hVlt
    have hw' : W 4294967296 rest < W 4294967296 m := by simpa using hw
    obtain ⟨r, h, h1, h2, h3⟩ := divBack (rest.take (n + 2)) (ho.take _) (by simp; omega) s hs
    refine ⟨out, r, ?_, hoo, rfl, h2, by rw [h1]; simp; omega, by rw [Nat.div_eq_of_lt hw']; rfl, ?_⟩
    · rw [divide_limbs_long_1_eq, cF (decide_eq_false (by omega)), cT (inC (by omega)), List.drop_zero, Int.toNat_natCast, Nat.sub_zero, h]; rfl
    · rw [h3, W_take_lt (by decide) ho _ (by omega), Nat.mod_eq_of_lt hw']
  | k + 1, rest, out, hk, hr, ho, hoo, hko, hol, hz, hw => by
    obtain ⟨q, hq, hg, hk1a, hk1b, hUT, hDpos⟩ := divDigit m rest hm n k hmn hh ho (by omega) hw
    have hwD : W 4294967296 rest < W 4294967296 m * 4294967296 ^ k * 4294967296 := by rw [Nat.pow_succ, ← Nat.mul_assoc] at hw; exact hw
    have d0 := ho.getD (by decide) (k + n)
    have d1 := ho.getD (by decide) (k + n + 1)
    have d2 := ho.getD (by decide) (k + n + 2)
    have m0 := hm.getD (by decide) n
    have m1 := hm.getD (by decide) (n + 1)
    have hVpos : 0 < W 4294967296 m := Nat.pos_of_mul_pos_right hDpos
    have hQ1 := Nat.div_mul_le_self (W 4294967296 rest) (W 4294967296 m * 4294967296 ^ k)
    have hQ2 : W 4294967296 rest < (W 4294967296 rest / (W 4294967296 m * 4294967296 ^ k) + 1) * (W 4294967296 m * 4294967296 ^ k) := by
      have h1 := Nat.div_add_mod (W 4294967296 rest) (W 4294967296 m * 4294967296 ^ k)
      have h2 := Nat.mod_lt (W 4294967296 rest) hDpos
      rw [Nat.succ_mul, Nat.mul_comm (W 4294967296 rest / _)]
      omega
    generalize W 4294967296 rest / (W 4294967296 m * 4294967296 ^ k) = Q at *
    have hlr : k + m.length < rest.length := by omega
    have done : ∀ R : List Int, R.length = rest.length → Ok 4294967296 R → W 4294967296 R + Q * (W 4294967296 m * 4294967296 ^ k) = W 4294967296 rest → ∃ o r, (cond (decide (0 ≤ (k : Int)) && decide ((k : Int) < (out.length : Int))) (divide_limbs_long_1 m (s : Int) ((n + 2 : Nat) : Int) (IntKind.i64.wrap ((k : Int) - 1)) R (out.set (k : Int).toNat (IntKind.u32.wrap (Q : Int)))) none) = some (o, r) ∧
        Ok 4294967296 o ∧ o.length = out.length ∧ Ok 4294967296 r ∧ r.length = n + 2 ∧ W 4294967296 o = W 4294967296 out + W 4294967296 rest / W 4294967296 m ∧ W 4294967296 r = W 4294967296 rest % W 4294967296 m / 2 ^ s := by
      intro R hRl hRo hRw
      have hQB : Q < 4294967296 := by omega
      obtain ⟨o, r, g, g1, g2, g3, g4, g5, g6⟩ := divLong1 m hm n hmn hn (by omega) s hs Lr hL k R (out.set k (Q : Int)) (by omega) (by omega) hRo (hoo.set _ (by omega) (by omega)) (by simp; omega) (by simp; omega)
        (fun p hp => by rw [getD_set_ne _ _ _ _ (by omega)]; exact hz p (by omega)) (by rw [Nat.succ_mul] at hQ2; omega)
      have hd := div_of_sub (W 4294967296 rest) (W 4294967296 R) (W 4294967296 m) (4294967296 ^ k * Q) hVpos (by rw [← hRw, Nat.mul_left_comm Q, Nat.mul_comm Q])
      have hset := W_set' 4294967296 out k Q (by omega)
      rw [hz k (by omega)] at hset
      simp only [Int.toNat_zero, Nat.mul_zero, Nat.add_zero] at hset
      refine ⟨o, r, ?_, g1, by rw [g2]; simp, g3, g4, by rw [g5, hset, hd.1]; omega, by rw [g6, hd.2]⟩
      rw [cT (ix (by omega)), wrap64 (by omega) (by omega), Int.toNat_natCast, wrapU32 (by omega) (by omega)]
      exact g
    have above : ∀ R : List Int, Ok 4294967296 R → (∀ p, k + m.length < p → R.getD p 0 = rest.getD p 0) → W 4294967296 R < 4294967296 ^ (k + m.length + 1) := fun R hRo hR =>
      W_lt_above (by decide) hRo _ fun p hp => by rw [hR p (by omega)]; exact W_above (by decide) ho (k + n + 3) p hUT (by omega)
    obtain ⟨rest', neg, t1, t2, t3, t4, t5, t6⟩ := divTake m hm q hq k rest out m (s : Int) ((n + 2 : Nat) : Int) (k : Int) (q : Int) hlr (by omega) m.length 0 0 0 rest (Nat.zero_add _) rfl ho (by omega) (by omega) (fun p _ => rfl) (by simp [W])
    have t6' : divide_limbs_long_3 m (q : Int) (k : Int) 0 0 (m.length : Int) 0 rest out m (s : Int) ((n + 2 : Nat) : Int) (k : Int) (q : Int) = _ := t6
    have a1 := above rest' t2 t3
    rw [show 4294967296 ^ k * (q * W 4294967296 m) = q * (W 4294967296 m * 4294967296 ^ k) by rw [Nat.mul_left_comm, Nat.mul_comm (4294967296 ^ k)]] at t5
    rw [divide_limbs_long_1_eq, show (((k + 1 : Nat) : Int) - 1) = (k : Int) by omega, cT (decide_eq_true (by omega)), wA (by omega),
      show IntKind.i64.wrap (((k + (n + 2) : Nat) : Int) - 1) = ((k + n + 1 : Nat) : Int) by rw [wrap64 (by omega) (by omega)]; omega,
      show IntKind.i64.wrap (((k + (n + 2) : Nat) : Int) - 2) = ((k + n : Nat) : Int) by rw [wrap64 (by omega) (by omega)]; omega,
      show IntKind.i64.wrap (((n + 2 : Nat) : Int) - 1) = ((n + 1 : Nat) : Int) by rw [wrap64 (by omega) (by omega)]; omega,
      show IntKind.i64.wrap (((n + 2 : Nat) : Int) - 2) = ((n : Nat) : Int) by rw [wrap64 (by omega) (by omega)]; omega,
      cT (ix (by omega)), cT (ix (by omega)), cT (ix (by omega)), cT (ix (by omega)), cT (ix (by omega)), Int.toNat_natCast, Int.toNat_natCast, Int.toNat_natCast, Int.toNat_natCast, Int.toNat_natCast, show k + (n + 2) = k + n + 2 by omega,
      wrapU64 (n := rest.getD (k + n + 2) 0) (by omega) (by omega), wrapU64 (n := rest.getD (k + n + 1) 0) (by omega) (by omega), wrapU64 (n := rest.getD (k + n) 0) (by omega) (by omega), wrapU64 (n := m.getD (n + 1) 0) (by omega) (by omega), wrapU64 (n := m.getD n 0) (by omega) (by omega),
      hg, Option.bind_some, divide_limbs_long_2_eq, t6']
    rcases Nat.lt_or_ge neg 1 with h0 | h1
    · obtain rfl : neg = 0 := by omega
      rw [cF (decide_eq_false (by omega))]
      rw [Nat.mul_zero, Nat.add_zero] at t5
      have : q ≤ Q := le_of_mul_lt (U := W 4294967296 rest) (by omega) hQ2
      obtain rfl : q = Q := by omega
      exact done rest' (by omega) t2 t5
    · obtain rfl : neg = 1 := by omega
      rw [cT (decide_eq_true rfl)]
      rw [Nat.mul_one] at t5
      have hqQ : q = Q + 1 := by
        rcases Nat.lt_or_ge Q q with h | h
        · omega
        · have := Nat.mul_le_mul_right (W 4294967296 m * 4294967296 ^ k) h
          omega
      obtain ⟨R, o, v1, v2, v3, v4, v5, v6⟩ := divGive m hm k rest' out m (s : Int) ((n + 2 : Nat) : Int) (k : Int) (Q : Int) (by omega) (by omega) m.length 0 0 rest' (Nat.zero_add _) rfl t2 (by omega) (fun p _ => rfl) (by simp [W])
      have v6' : divide_limbs_long_5 m (k : Int) 0 (m.length : Int) 0 rest' out m (s : Int) ((n + 2 : Nat) : Int) (k : Int) (Q : Int) = _ := v6
      have a2 := above R v2 (fun p hp => by rw [v3 p hp, t3 p hp])
      rw [divide_limbs_long_4_eq, show IntKind.u64.wrap ((q : Int) - 1) = (Q : Int) by rw [wrapU64 (by omega) (by omega)]; omega, v6']
      rw [Nat.mul_comm (4294967296 ^ k)] at v5
      rw [hqQ, Nat.succ_mul] at t5
      rcases Nat.lt_or_ge o 1 with h | h
      · obtain rfl : o = 0 := by omega
        exfalso
        omega
      · obtain rfl : o = 1 := by omega
        rw [Nat.mul_one] at v5
        exact done R (by omega) v2 (by omega)
theorem blen_bounds (h : Nat) : h < 2 ^ blen h ∧ (h ≠ 0 → 2 ^ blen h ≤ 2 * h) := by
  induction h using Nat.strongRecOn with
  | _ h ih =>
    by_cases h0 : h = 0
    · subst h0; simp [blen_zero]
    · obtain ⟨i1, i2⟩ := ih (h / 2) (by omega)
      rw [blen_pos h0, Nat.pow_succ]
      refine ⟨by omega, fun _ => ?_⟩
      by_cases h1 : h / 2 = 0
      · rw [h1, blen_zero]; omega
      · have := i2 h1; omega
theorem divLong (a b : Nat) (hb : 2 ≤ (limbs b).length) (hab : b ≤ a) (ha : (limbs a).length ≤ 500000000) : ∃ o r, divide_limbs_long (limbs a) (limbs b) = some (o, r) ∧ Ok 4294967296 o ∧ o.length ≤ 1000000000 ∧ Ok 4294967296 r ∧ r.length ≤ 1000000000 ∧ W 4294967296 o = a / b ∧ W 4294967296 r = a % b := by
  obtain ⟨n, hn⟩ : ∃ n, (limbs b).length = n + 2 := ⟨(limbs b).length - 2, by omega⟩
  have hle : (limbs b).length ≤ (limbs a).length := by
    rcases Nat.lt_or_ge (limbs a).length (limbs b).length with h | h
    · have := limbs_len_lt h; omega
    · exact h
  have hb0 : b ≠ 0 := fun e => by rw [e, limbs_zero] at hb; simp at hb
  have hlow := limbs_low hb0
  have hbl := lt_limbs b
  have hal := lt_limbs a
  rw [hn, show n + 2 - 1 = n + 1 by omega] at hlow
  rw [hn] at hbl
  have hx := (limbs_ok b).getD (by decide) (n + 1)
  have hd := W_digit (by decide) (limbs_ok b) (n + 1)
  rw [W_limbs] at hd
  have hlt : b / 4294967296 ^ (n + 1) < 4294967296 := (Nat.div_lt_iff_lt_mul (Nat.pow_pos (by decide))).2 (by rw [Nat.mul_comm, ← Nat.pow_succ]; exact hbl)
  rw [Nat.mod_eq_of_lt hlt] at hd
  have hpos : 0 < b / 4294967296 ^ (n + 1) := Nat.div_pos hlow (Nat.pow_pos (by decide))
  have hda := Nat.div_add_mod b (4294967296 ^ (n + 1))
  have hma := Nat.mod_lt b (Nat.pow_pos (n := n + 1) (show 0 < 4294967296 by decide))
  have n0 : (limbs b).getD (n + 1) 0 = (((limbs b).getD (n + 1) 0).toNat : Int) := by omega
  rw [hd] at n0
  generalize b / 4294967296 ^ (n + 1) = h at *
  obtain ⟨hb1, hb2⟩ := blen_bounds h
  have hb2 := hb2 (by omega)
  have hb32 := blen_le h (by omega)
  have hb3 : blen h ≠ 0 := fun e => by rw [e] at hb1; simp at hb1; omega
  obtain ⟨s, hs⟩ : ∃ s, s + blen h = 32 := ⟨32 - blen h, by omega⟩
  have hp : 2 ^ s * 2 ^ blen h = 4294967296 := by rw [← Nat.pow_add, hs]
  have hsp : 0 < 2 ^ s := Nat.two_pow_pos s
  have p1 : (h + 1) * 2 ^ s ≤ 4294967296 := by rw [← hp, Nat.mul_comm]; exact Nat.mul_le_mul_left _ hb1
  have p2 : 2147483648 ≤ h * 2 ^ s := by
    have : 2 ^ s * 2 ^ blen h ≤ 2 ^ s * (2 * h) := Nat.mul_le_mul_left _ hb2
    rw [hp, Nat.mul_left_comm, Nat.mul_comm (2 ^ s)] at this
    omega
  have hlz : math_bits_LeadingZeros32 ((limbs b).getD (n + 1) 0) = some (s : Int) := by
    refine (top_call ..).trans ?_
    show lz32F ((limbs b).getD (n + 1) 0) = _
    unfold lz32F
    rw [n0, cT (by simp; omega), Int.toNat_natCast, bitLen_blen h (by omega)]
    congr 1
    omega
  obtain ⟨R, e1, q1, q2, q3⟩ := divShift (limbs a) (limbs_ok a) (by omega) s (by omega)
  obtain ⟨M, e2, r1, r2, r3⟩ := divShift (limbs b) (limbs_ok b) (by omega) s (by omega)
  rw [W_limbs] at q3 r3
  have hbs : b * 2 ^ s < 4294967296 ^ (n + 2) := by
    have h1 : b < 4294967296 ^ (n + 1) * (h + 1) := by rw [Nat.mul_succ]; omega
    have h2 : b * 2 ^ s < 4294967296 ^ (n + 1) * (h + 1) * 2 ^ s := Nat.mul_lt_mul_of_pos_right h1 hsp
    rw [Nat.mul_assoc] at h2
    have h3 := Nat.mul_le_mul_left (4294967296 ^ (n + 1)) p1
    rw [Nat.pow_succ]
    omega
  have hMW : W 4294967296 (M.take (n + 2)) = b * 2 ^ s := by rw [← r3]; exact W_take_lt (by decide) r2 _ (by rw [r3]; exact hbs)
  have hMl : (M.take (n + 2)).length = n + 2 := by simp; omega
  have hhigh : 2147483648 ≤ ((M.take (n + 2)).getD (n + 1) 0).toNat := by
    rw [W_digit (by decide) (r2.take _), hMW, Nat.mod_eq_of_lt ((Nat.div_lt_iff_lt_mul (Nat.pow_pos (by decide))).2 (by rw [Nat.mul_comm (4294967296), ← Nat.pow_succ]; exact hbs)), Nat.le_div_iff_mul_le (Nat.pow_pos (by decide))]
    have h1 : 4294967296 ^ (n + 1) * h ≤ b := by omega
    have h2 := Nat.mul_le_mul_right (2 ^ s) h1
    have h3 := Nat.mul_le_mul_left (4294967296 ^ (n + 1)) p2
    rw [Nat.mul_assoc] at h2
    rw [Nat.mul_comm]
    omega
  obtain ⟨la, hla⟩ : ∃ la, (limbs a).length = la + (n + 2) := ⟨(limbs a).length - (n + 2), by omega⟩
  have hrest : W 4294967296 R < W 4294967296 (M.take (n + 2)) * 4294967296 ^ (la + 1) := by
    rw [q3, hMW, Nat.mul_right_comm]
    refine Nat.mul_lt_mul_of_pos_right ?_ hsp
    refine Nat.lt_of_lt_of_le hal ?_
    rw [hla, show la + (n + 2) = (n + 1) + (la + 1) by omega, Nat.pow_add]
    exact Nat.mul_le_mul_right _ (by omega)
  obtain ⟨o, r, g, g1, g2, g3, g4, g5, g6⟩ := divLong1 (M.take (n + 2)) (r2.take _) n hMl (by omega) hhigh s (by omega) (la + (n + 2) + 1) (by omega) (la + 1) R (List.replicate (la + 1) 0) (by omega) (by omega) q2 (Ok.zeros (by decide) _) (by simp) (by simp) (fun p _ => zeros_getD _ _) hrest
  rw [q3, hMW] at g5 g6
  refine ⟨o, r, ?_, g1, by rw [g2]; simp; omega, g3, by omega, ?_, ?_⟩
  · rw [divide_limbs_long_eq, hn, hla, show IntKind.i64.wrap (((n + 2 : Nat) : Int) - 1) = ((n + 1 : Nat) : Int) by rw [wrap64 (by omega) (by omega)]; omega, cT (ix (by omega)), Int.toNat_natCast, hlz, Option.bind_some, e1, Option.bind_some, e2, Option.bind_some, cT (inC (by omega))]
    simp only [Int.toNat_natCast, Nat.sub_zero, Int.sub_zero, List.drop_zero]
    rw [show IntKind.i64.wrap (((la + (n + 2) : Nat) : Int) - ((n + 2 : Nat) : Int)) = ((la : Nat) : Int) by rw [wrap64 (by omega) (by omega)]; omega, wS (by omega), cT (by simp; omega), Int.toNat_natCast]
    rw [show (((la + 1 : Nat) : Int) - 1) = (la : Int) by omega] at g
    exact g
  · rw [g5, W_zeros, Nat.zero_add, Nat.mul_div_mul_right _ _ hsp]
  · rw [g6, Nat.mul_mod_mul_right, Nat.mul_div_cancel _ hsp]
theorem divDivMod (a b : List UInt8) (ha : a.length ≤ 1000000000) (hb : b.length ≤ 1000000000) : divide_DivMod a b = some (divmod (val a) (val b)) := by
  have la := limbs_val a
  have lb := limbs_val b
  rw [divide_DivMod_eq, divRead a ha, Option.bind_some, divRead b hb, Option.bind_some, divmod]
  by_cases h0 : val b = 0
  · rw [if_pos h0, cT (decide_eq_true (by rw [limbs_nil.2 h0]; rfl))]
  · have hn0 : (limbs (val b)).length ≠ 0 := fun e => h0 (limbs_nil.1 e)
    rw [if_neg h0, cF (decide_eq_false (by omega)), natCmp a b (by omega) (by omega), Option.bind_some]
    by_cases hlt : val a < val b
    · rw [cT (decide_eq_true (sgnv_neg.2 hlt)), natTrim, Option.bind_some, Nat.div_eq_of_lt hlt, Nat.mod_eq_of_lt hlt, nat_zero]
    · have hns : ¬ sgnv (val a) (val b) < 0 := fun h => hlt (sgnv_neg.1 h)
      rw [cF (decide_eq_false hns)]
      by_cases h1 : (limbs (val b)).length = 1
      · have hbb := lt_limbs (val b)
        rw [h1, Nat.pow_one] at hbb
        have hg : (limbs (val b)).getD 0 0 = ((val b : Nat) : Int) := by rw [limbs_getD]; simp only [Nat.pow_zero, Nat.div_one]; rw [Nat.mod_eq_of_lt hbb]
        obtain ⟨out, e, o1, o2, o3⟩ := divShort (limbs (val a)) (val b) (by omega) hbb (limbs_ok _) (by omega)
        rw [W_limbs] at e o3
        have hm := Nat.mod_lt (val a) (show 0 < val b by omega)
        rw [cT (decide_eq_true (by omega)), cT (by rw [h1]; rfl), hg, e, Option.bind_some, divide_DivMod_1_eq, divText out (by omega) o1, Option.bind_some, divText _ (by simp) ((Ok.nil _).cons (Int.natCast_nonneg _) (by omega)), Option.bind_some, o3, W, W, Nat.mul_zero, Nat.add_zero, Int.toNat_natCast]
      · obtain ⟨o, r, e, o1, o2, o3, o4, o5, o6⟩ := divLong (val a) (val b) (by omega) (by omega) (by omega)
        rw [cF (decide_eq_false (by omega)), e, Option.bind_some, divide_DivMod_1_eq, divText o o2 o1, Option.bind_some, divText r o4 o3, Option.bind_some, o5, o6]
end Go.Proofs.YtpdfjgooaaailaaGreatDoor.P
set_option maxRecDepth 100000
namespace Go.Proofs.YtpdfjgooaaailaaGreatDoor.C
open Go Go.Proofs.YtpdfjgooaaailaaGreatDoor.K
theorem look_all {α : Type} {Q : Nat → α → Prop} : ∀ {l : List (Nat × α)}, (∀ p ∈ l, Q p.1 p.2) → ∀ t v, look l t = some v → Q t v
  | [], _, t, v, h => by cases h
  | (u, x) :: l, hl, t, v, h => by
    simp only [look] at h
    split at h
    · rename_i hb
      have := Nat.eq_of_beq_eq_true hb
      subst this
      cases h
      exact hl _ (List.mem_cons_self ..)
    · exact look_all (fun p hp => hl p (List.mem_cons_of_mem _ hp)) t v h
theorem all_nil {α : Type} {Q : Nat → α → Prop} : ∀ p ∈ ([] : List (Nat × α)), Q p.1 p.2 := fun p h => by cases h
theorem all_cons {α : Type} {Q : Nat → α → Prop} {u : Nat} {x : α} {l : List (Nat × α)} (h : Q u x) (hl : ∀ p ∈ l, Q p.1 p.2) : ∀ p ∈ (u, x) :: l, Q p.1 p.2 := fun p hp => by
  rcases List.mem_cons.1 hp with rfl | hp
  · exact h
  · exact hl p hp
theorem tiok3 : TIok Tryz.prog 3 ti3 := ⟨by kernel_rfl, by kernel_rfl, by kernel_rfl, by kernel_rfl, by kernel_rfl, by kernel_rfl, by kernel_rfl, by kernel_rfl, ⟨by kernel_rfl, by kernel_rfl, by kernel_rfl⟩, fun h => by cases h⟩
theorem tiok5 : TIok Tryz.prog 5 ti5 := ⟨by kernel_rfl, by kernel_rfl, by kernel_rfl, by kernel_rfl, by kernel_rfl, by kernel_rfl, by kernel_rfl, by kernel_rfl, ⟨by kernel_rfl, by kernel_rfl, by kernel_rfl⟩, fun h => by cases h⟩
theorem tiok9 : TIok Tryz.prog 9 ti9 := ⟨by kernel_rfl, by kernel_rfl, by kernel_rfl, by kernel_rfl, by kernel_rfl, by kernel_rfl, by kernel_rfl, by kernel_rfl, ⟨by kernel_rfl, by kernel_rfl, by kernel_rfl⟩, fun h => by cases h⟩
theorem tiok30 : TIok Tryz.prog 30 ti30 := ⟨by kernel_rfl, by kernel_rfl, by kernel_rfl, by kernel_rfl, by kernel_rfl, by kernel_rfl, by kernel_rfl, by kernel_rfl, ⟨by kernel_rfl, by kernel_rfl, by kernel_rfl⟩, fun h => by cases h⟩
theorem tiok53 : TIok Tryz.prog 53 ti53 := ⟨by kernel_rfl, by kernel_rfl, by kernel_rfl, by kernel_rfl, by kernel_rfl, by kernel_rfl, by kernel_rfl, by kernel_rfl, ⟨by kernel_rfl, by kernel_rfl, by kernel_rfl⟩, fun h => by cases h⟩
theorem tiok71 : TIok Tryz.prog 71 ti71 := ⟨by kernel_rfl, by kernel_rfl, by kernel_rfl, by kernel_rfl, by kernel_rfl, by kernel_rfl, by kernel_rfl, by kernel_rfl, ⟨by kernel_rfl, by kernel_rfl, by kernel_rfl⟩, fun h => by cases h⟩
theorem tiok91 : TIok Tryz.prog 91 ti91 := ⟨by kernel_rfl, by kernel_rfl, by kernel_rfl, by kernel_rfl, by kernel_rfl, by kernel_rfl, by kernel_rfl, by kernel_rfl, ⟨by kernel_rfl, by kernel_rfl, by kernel_rfl⟩, fun h => by cases h⟩
theorem tiok92 : TIok Tryz.prog 92 ti92 := ⟨by kernel_rfl, by kernel_rfl, by kernel_rfl, by kernel_rfl, by kernel_rfl, by kernel_rfl, by kernel_rfl, by kernel_rfl, trivial, fun h => by cases h⟩
theorem tiok120 : TIok Tryz.prog 120 ti120 := ⟨by kernel_rfl, by kernel_rfl, by kernel_rfl, by kernel_rfl, by kernel_rfl, by kernel_rfl, by kernel_rfl, by kernel_rfl, ⟨by kernel_rfl, by kernel_rfl, by kernel_rfl⟩, fun h => by cases h⟩
theorem tiok160 : TIok Tryz.prog 160 ti160 := ⟨by kernel_rfl, by kernel_rfl, by kernel_rfl, by kernel_rfl, by kernel_rfl, by kernel_rfl, by kernel_rfl, by kernel_rfl, ⟨by kernel_rfl, by kernel_rfl, by kernel_rfl⟩, fun h => by cases h⟩
theorem tiok164 : TIok Tryz.prog 164 ti164 := ⟨by kernel_rfl, by kernel_rfl, by kernel_rfl, by kernel_rfl, by kernel_rfl, by kernel_rfl, by kernel_rfl, by kernel_rfl, ⟨by kernel_rfl, by kernel_rfl, by kernel_rfl⟩, fun h => by cases h⟩
theorem tiok166 : TIok Tryz.prog 166 ti166 := ⟨by kernel_rfl, by kernel_rfl, by kernel_rfl, by kernel_rfl, by kernel_rfl, by kernel_rfl, by kernel_rfl, by kernel_rfl, ⟨by kernel_rfl, by kernel_rfl, by kernel_rfl⟩, fun h => by cases h⟩
theorem tis_ok : CtxTI Tryz.prog CT := look_all (l := tis) (all_cons tiok3 (all_cons tiok5 (all_cons tiok9 (all_cons tiok30 (all_cons tiok53 (all_cons tiok71 (all_cons tiok91 (all_cons tiok92 (all_cons tiok120 (all_cons tiok160 (all_cons tiok164 (all_cons tiok166 all_nil))))))))))))
def FnOk (f : Nat) (fn : Func) : Prop := Tryz.prog.funcs[f]? = some fn ∧ fn.body.isSome = true ∧ (fn.name == "runtime.NumGoroutine") = false
def ParOk (i : Nat) (fn : Func) : Prop := ((look ptsL i).getD []).length ≤ fn.ntmps
theorem fnok61 : FnOk 61 Tryz.f61 := ⟨Tryz.func61, by kernel_rfl, by kernel_rfl⟩
theorem fnok198 : FnOk 198 Tryz.f198 := ⟨Tryz.func198, by kernel_rfl, by kernel_rfl⟩
theorem fnok199 : FnOk 199 Tryz.f199 := ⟨Tryz.func199, by kernel_rfl, by kernel_rfl⟩
theorem fnok204 : FnOk 204 Tryz.f204 := ⟨Tryz.func204, by kernel_rfl, by kernel_rfl⟩
theorem fnok22 : FnOk 22 Tryz.f22 := ⟨Tryz.func22, by kernel_rfl, by kernel_rfl⟩
theorem fnok34 : FnOk 34 Tryz.f34 := ⟨Tryz.func34, by kernel_rfl, by kernel_rfl⟩
theorem fnok37 : FnOk 37 Tryz.f37 := ⟨Tryz.func37, by kernel_rfl, by kernel_rfl⟩
theorem fnok57 : FnOk 57 Tryz.f57 := ⟨Tryz.func57, by kernel_rfl, by kernel_rfl⟩
theorem fnok59 : FnOk 59 Tryz.f59 := ⟨Tryz.func59, by kernel_rfl, by kernel_rfl⟩
theorem fnok60 : FnOk 60 Tryz.f60 := ⟨Tryz.func60, by kernel_rfl, by kernel_rfl⟩
theorem fnok65 : FnOk 65 Tryz.f65 := ⟨Tryz.func65, by kernel_rfl, by kernel_rfl⟩
theorem fnok92 : FnOk 92 Tryz.f92 := ⟨Tryz.func92, by kernel_rfl, by kernel_rfl⟩
theorem fnok93 : FnOk 93 Tryz.f93 := ⟨Tryz.func93, by kernel_rfl, by kernel_rfl⟩
theorem fnok94 : FnOk 94 Tryz.f94 := ⟨Tryz.func94, by kernel_rfl, by kernel_rfl⟩
theorem fnok95 : FnOk 95 Tryz.f95 := ⟨Tryz.func95, by kernel_rfl, by kernel_rfl⟩
theorem fnok108 : FnOk 108 Tryz.f108 := ⟨Tryz.func108, by kernel_rfl, by kernel_rfl⟩
theorem fnok112 : FnOk 112 Tryz.f112 := ⟨Tryz.func112, by kernel_rfl, by kernel_rfl⟩
theorem fnok113 : FnOk 113 Tryz.f113 := ⟨Tryz.func113, by kernel_rfl, by kernel_rfl⟩
theorem fnok144 : FnOk 144 Tryz.f144 := ⟨Tryz.func144, by kernel_rfl, by kernel_rfl⟩
theorem fnok151 : FnOk 151 Tryz.f151 := ⟨Tryz.func151, by kernel_rfl, by kernel_rfl⟩
theorem fnok152 : FnOk 152 Tryz.f152 := ⟨Tryz.func152, by kernel_rfl, by kernel_rfl⟩
theorem fnok153 : FnOk 153 Tryz.f153 := ⟨Tryz.func153, by kernel_rfl, by kernel_rfl⟩
theorem fnok154 : FnOk 154 Tryz.f154 := ⟨Tryz.func154, by kernel_rfl, by kernel_rfl⟩
theorem fnok155 : FnOk 155 Tryz.f155 := ⟨Tryz.func155, by kernel_rfl, by kernel_rfl⟩
theorem fnok156 : FnOk 156 Tryz.f156 := ⟨Tryz.func156, by kernel_rfl, by kernel_rfl⟩
theorem fnok158 : FnOk 158 Tryz.f158 := ⟨Tryz.func158, by kernel_rfl, by kernel_rfl⟩
theorem fnok159 : FnOk 159 Tryz.f159 := ⟨Tryz.func159, by kernel_rfl, by kernel_rfl⟩
theorem fnok160 : FnOk 160 Tryz.f160 := ⟨Tryz.func160, by kernel_rfl, by kernel_rfl⟩
theorem fnok161 : FnOk 161 Tryz.f161 := ⟨Tryz.func161, by kernel_rfl, by kernel_rfl⟩
theorem fnok162 : FnOk 162 Tryz.f162 := ⟨Tryz.func162, by kernel_rfl, by kernel_rfl⟩
theorem fnok163 : FnOk 163 Tryz.f163 := ⟨Tryz.func163, by kernel_rfl, by kernel_rfl⟩
theorem fnok164 : FnOk 164 Tryz.f164 := ⟨Tryz.func164, by kernel_rfl, by kernel_rfl⟩
theorem fnok167 : FnOk 167 Tryz.f167 := ⟨Tryz.func167, by kernel_rfl, by kernel_rfl⟩
theorem fnok168 : FnOk 168 Tryz.f168 := ⟨Tryz.func168, by kernel_rfl, by kernel_rfl⟩
theorem fnok179 : FnOk 179 Tryz.f179 := ⟨Tryz.func179, by kernel_rfl, by kernel_rfl⟩
theorem fnok184 : FnOk 184 Tryz.f184 := ⟨Tryz.func184, by kernel_rfl, by kernel_rfl⟩
theorem fnok185 : FnOk 185 Tryz.f185 := ⟨Tryz.func185, by kernel_rfl, by kernel_rfl⟩
theorem fnok186 : FnOk 186 Tryz.f186 := ⟨Tryz.func186, by kernel_rfl, by kernel_rfl⟩
theorem fnok195 : FnOk 195 Tryz.f195 := ⟨Tryz.func195, by kernel_rfl, by kernel_rfl⟩
theorem fnok196 : FnOk 196 Tryz.f196 := ⟨Tryz.func196, by kernel_rfl, by kernel_rfl⟩
theorem fnok197 : FnOk 197 Tryz.f197 := ⟨Tryz.func197, by kernel_rfl, by kernel_rfl⟩
theorem fnok200 : FnOk 200 Tryz.f200 := ⟨Tryz.func200, by kernel_rfl, by kernel_rfl⟩
theorem fnok201 : FnOk 201 Tryz.f201 := ⟨Tryz.func201, by kernel_rfl, by kernel_rfl⟩
theorem fnok205 : FnOk 205 Tryz.f205 := ⟨Tryz.func205, by kernel_rfl, by kernel_rfl⟩
theorem fnok215 : FnOk 215 Tryz.f215 := ⟨Tryz.func215, by kernel_rfl, by kernel_rfl⟩
theorem fnok216 : FnOk 216 Tryz.f216 := ⟨Tryz.func216, by kernel_rfl, by kernel_rfl⟩
theorem parok22 : ParOk 22 Tryz.f22 := Nat.le_of_ble_eq_true (by kernel_rfl)
theorem parok34 : ParOk 34 Tryz.f34 := Nat.le_of_ble_eq_true (by kernel_rfl)
theorem parok37 : ParOk 37 Tryz.f37 := Nat.le_of_ble_eq_true (by kernel_rfl)
theorem parok57 : ParOk 57 Tryz.f57 := Nat.le_of_ble_eq_true (by kernel_rfl)
theorem parok59 : ParOk 59 Tryz.f59 := Nat.le_of_ble_eq_true (by kernel_rfl)
theorem parok60 : ParOk 60 Tryz.f60 := Nat.le_of_ble_eq_true (by kernel_rfl)
theorem parok65 : ParOk 65 Tryz.f65 := Nat.le_of_ble_eq_true (by kernel_rfl)
theorem parok92 : ParOk 92 Tryz.f92 := Nat.le_of_ble_eq_true (by kernel_rfl)
theorem parok93 : ParOk 93 Tryz.f93 := Nat.le_of_ble_eq_true (by kernel_rfl)
theorem parok94 : ParOk 94 Tryz.f94 := Nat.le_of_ble_eq_true (by kernel_rfl)
theorem parok95 : ParOk 95 Tryz.f95 := Nat.le_of_ble_eq_true (by kernel_rfl)
theorem parok108 : ParOk 108 Tryz.f108 := Nat.le_of_ble_eq_true (by kernel_rfl)
theorem parok112 : ParOk 112 Tryz.f112 := Nat.le_of_ble_eq_true (by kernel_rfl)
theorem parok113 : ParOk 113 Tryz.f113 := Nat.le_of_ble_eq_true (by kernel_rfl)
theorem parok144 : ParOk 144 Tryz.f144 := Nat.le_of_ble_eq_true (by kernel_rfl)
theorem parok151 : ParOk 151 Tryz.f151 := Nat.le_of_ble_eq_true (by kernel_rfl)
theorem parok152 : ParOk 152 Tryz.f152 := Nat.le_of_ble_eq_true (by kernel_rfl)
theorem parok153 : ParOk 153 Tryz.f153 := Nat.le_of_ble_eq_true (by kernel_rfl)
theorem parok154 : ParOk 154 Tryz.f154 := Nat.le_of_ble_eq_true (by kernel_rfl)
theorem parok155 : ParOk 155 Tryz.f155 := Nat.le_of_ble_eq_true (by kernel_rfl)
theorem parok156 : ParOk 156 Tryz.f156 := Nat.le_of_ble_eq_true (by kernel_rfl)
theorem parok158 : ParOk 158 Tryz.f158 := Nat.le_of_ble_eq_true (by kernel_rfl)
theorem parok159 : ParOk 159 Tryz.f159 := Nat.le_of_ble_eq_true (by kernel_rfl)
theorem parok160 : ParOk 160 Tryz.f160 := Nat.le_of_ble_eq_true (by kernel_rfl)
theorem parok161 : ParOk 161 Tryz.f161 := Nat.le_of_ble_eq_true (by kernel_rfl)
theorem parok162 : ParOk 162 Tryz.f162 := Nat.le_of_ble_eq_true (by kernel_rfl)
theorem parok163 : ParOk 163 Tryz.f163 := Nat.le_of_ble_eq_true (by kernel_rfl)
theorem parok164 : ParOk 164 Tryz.f164 := Nat.le_of_ble_eq_true (by kernel_rfl)
theorem parok167 : ParOk 167 Tryz.f167 := Nat.le_of_ble_eq_true (by kernel_rfl)
theorem parok168 : ParOk 168 Tryz.f168 := Nat.le_of_ble_eq_true (by kernel_rfl)
theorem parok179 : ParOk 179 Tryz.f179 := Nat.le_of_ble_eq_true (by kernel_rfl)
theorem parok184 : ParOk 184 Tryz.f184 := Nat.le_of_ble_eq_true (by kernel_rfl)
theorem parok185 : ParOk 185 Tryz.f185 := Nat.le_of_ble_eq_true (by kernel_rfl)
theorem parok186 : ParOk 186 Tryz.f186 := Nat.le_of_ble_eq_true (by kernel_rfl)
theorem parok195 : ParOk 195 Tryz.f195 := Nat.le_of_ble_eq_true (by kernel_rfl)
theorem parok196 : ParOk 196 Tryz.f196 := Nat.le_of_ble_eq_true (by kernel_rfl)
theorem parok197 : ParOk 197 Tryz.f197 := Nat.le_of_ble_eq_true (by kernel_rfl)
theorem parok200 : ParOk 200 Tryz.f200 := Nat.le_of_ble_eq_true (by kernel_rfl)
theorem parok201 : ParOk 201 Tryz.f201 := Nat.le_of_ble_eq_true (by kernel_rfl)
theorem parok205 : ParOk 205 Tryz.f205 := Nat.le_of_ble_eq_true (by kernel_rfl)
theorem parok215 : ParOk 215 Tryz.f215 := Nat.le_of_ble_eq_true (by kernel_rfl)
theorem parok216 : ParOk 216 Tryz.f216 := Nat.le_of_ble_eq_true (by kernel_rfl)
theorem fns_ok : ∀ f fn, look fns f = some fn → FnOk f fn := look_all (Q := FnOk) (l := fns) (all_cons fnok22 (all_cons fnok34 (all_cons fnok37 (all_cons fnok57 (all_cons fnok59 (all_cons fnok60 (all_cons fnok65 (all_cons fnok92 (all_cons fnok93 (all_cons fnok94 (all_cons fnok95 (all_cons fnok108 (all_cons fnok112 (all_cons fnok113 (all_cons fnok144 (all_cons fnok151 (all_cons fnok152 (all_cons fnok153 (all_cons fnok154 (all_cons fnok155 (all_cons fnok156 (all_cons fnok158 (all_cons fnok159 (all_cons fnok160 (all_cons fnok161 (all_cons fnok162 (all_cons fnok163 (all_cons fnok164 (all_cons fnok167 (all_cons fnok168 (all_cons fnok179 (all_cons fnok184 (all_cons fnok185 (all_cons fnok186 (all_cons fnok195 (all_cons fnok196 (all_cons fnok197 (all_cons fnok200 (all_cons fnok201 (all_cons fnok205 (all_cons fnok215 (all_cons fnok216 (all_cons fnok61 (all_cons fnok198 (all_cons fnok199 (all_cons fnok204 all_nil))))))))))))))))))))))))))))))))))))))))))))))
theorem ctx_ok : CtxOk Tryz.prog CT := ⟨tis_ok, fns_ok, by kernel_rfl, inv_keeps⟩
def PtOk (i : Nat) (ts : List Ty) : Prop := ∀ fn, look fns (CT.fid i) = some fn → ts.length ≤ fn.ntmps
theorem pt_ok {i : Nat} {ts : List Ty} {f : Func} (e : look fns (CT.fid i) = some f) (h : ts.length ≤ f.ntmps) : PtOk i ts := fun fn hf => by rw [e] at hf; cases hf; exact h
theorem ptok22 : PtOk 22 ((look ptsL 22).getD []) := pt_ok (f := Tryz.f22) (by kernel_rfl) parok22
theorem ptok34 : PtOk 34 ((look ptsL 34).getD []) := pt_ok (f := Tryz.f34) (by kernel_rfl) parok34
theorem ptok37 : PtOk 37 ((look ptsL 37).getD []) := pt_ok (f := Tryz.f37) (by kernel_rfl) parok37
theorem ptok57 : PtOk 57 ((look ptsL 57).getD []) := pt_ok (f := Tryz.f57) (by kernel_rfl) parok57
theorem ptok59 : PtOk 59 ((look ptsL 59).getD []) := pt_ok (f := Tryz.f59) (by kernel_rfl) parok59
theorem ptok60 : PtOk 60 ((look ptsL 60).getD []) := pt_ok (f := Tryz.f60) (by kernel_rfl) parok60
theorem ptok65 : PtOk 65 ((look ptsL 65).getD []) := pt_ok (f := Tryz.f65) (by kernel_rfl) parok65
theorem ptok92 : PtOk 92 ((look ptsL 92).getD []) := pt_ok (f := Tryz.f92) (by kernel_rfl) parok92
theorem ptok93 : PtOk 93 ((look ptsL 93).getD []) := pt_ok (f := Tryz.f93) (by kernel_rfl) parok93
theorem ptok94 : PtOk 94 ((look ptsL 94).getD []) := pt_ok (f := Tryz.f94) (by kernel_rfl) parok94
theorem ptok95 : PtOk 95 ((look ptsL 95).getD []) := pt_ok (f := Tryz.f95) (by kernel_rfl) parok95
theorem ptok108 : PtOk 108 ((look ptsL 108).getD []) := pt_ok (f := Tryz.f108) (by kernel_rfl) parok108
theorem ptok112 : PtOk 112 ((look ptsL 112).getD []) := pt_ok (f := Tryz.f112) (by kernel_rfl) parok112
theorem ptok113 : PtOk 113 ((look ptsL 113).getD []) := pt_ok (f := Tryz.f113) (by kernel_rfl) parok113
theorem ptok144 : PtOk 144 ((look ptsL 144).getD []) := pt_ok (f := Tryz.f144) (by kernel_rfl) parok144
theorem ptok151 : PtOk 151 ((look ptsL 151).getD []) := pt_ok (f := Tryz.f151) (by kernel_rfl) parok151
theorem ptok152 : PtOk 152 ((look ptsL 152).getD []) := pt_ok (f := Tryz.f152) (by kernel_rfl) parok152
theorem ptok153 : PtOk 153 ((look ptsL 153).getD []) := pt_ok (f := Tryz.f153) (by kernel_rfl) parok153
theorem ptok154 : PtOk 154 ((look ptsL 154).getD []) := pt_ok (f := Tryz.f154) (by kernel_rfl) parok154
theorem ptok155 : PtOk 155 ((look ptsL 155).getD []) := pt_ok (f := Tryz.f155) (by kernel_rfl) parok155
theorem ptok156 : PtOk 156 ((look ptsL 156).getD []) := pt_ok (f := Tryz.f156) (by kernel_rfl) parok156
theorem ptok158 : PtOk 158 ((look ptsL 158).getD []) := pt_ok (f := Tryz.f158) (by kernel_rfl) parok158
theorem ptok159 : PtOk 159 ((look ptsL 159).getD []) := pt_ok (f := Tryz.f159) (by kernel_rfl) parok159
theorem ptok160 : PtOk 160 ((look ptsL 160).getD []) := pt_ok (f := Tryz.f160) (by kernel_rfl) parok160
theorem ptok161 : PtOk 161 ((look ptsL 161).getD []) := pt_ok (f := Tryz.f161) (by kernel_rfl) parok161
theorem ptok162 : PtOk 162 ((look ptsL 162).getD []) := pt_ok (f := Tryz.f162) (by kernel_rfl) parok162
theorem ptok163 : PtOk 163 ((look ptsL 163).getD []) := pt_ok (f := Tryz.f163) (by kernel_rfl) parok163
theorem ptok164 : PtOk 164 ((look ptsL 164).getD []) := pt_ok (f := Tryz.f164) (by kernel_rfl) parok164
theorem ptok167 : PtOk 167 ((look ptsL 167).getD []) := pt_ok (f := Tryz.f167) (by kernel_rfl) parok167
theorem ptok168 : PtOk 168 ((look ptsL 168).getD []) := pt_ok (f := Tryz.f168) (by kernel_rfl) parok168
theorem ptok179 : PtOk 179 ((look ptsL 179).getD []) := pt_ok (f := Tryz.f179) (by kernel_rfl) parok179
theorem ptok184 : PtOk 184 ((look ptsL 184).getD []) := pt_ok (f := Tryz.f184) (by kernel_rfl) parok184
theorem ptok185 : PtOk 185 ((look ptsL 185).getD []) := pt_ok (f := Tryz.f185) (by kernel_rfl) parok185
theorem ptok186 : PtOk 186 ((look ptsL 186).getD []) := pt_ok (f := Tryz.f186) (by kernel_rfl) parok186
theorem ptok195 : PtOk 195 ((look ptsL 195).getD []) := pt_ok (f := Tryz.f195) (by kernel_rfl) parok195
theorem ptok196 : PtOk 196 ((look ptsL 196).getD []) := pt_ok (f := Tryz.f196) (by kernel_rfl) parok196
theorem ptok197 : PtOk 197 ((look ptsL 197).getD []) := pt_ok (f := Tryz.f197) (by kernel_rfl) parok197
theorem ptok200 : PtOk 200 ((look ptsL 200).getD []) := pt_ok (f := Tryz.f200) (by kernel_rfl) parok200
theorem ptok201 : PtOk 201 ((look ptsL 201).getD []) := pt_ok (f := Tryz.f201) (by kernel_rfl) parok201
theorem ptok205 : PtOk 205 ((look ptsL 205).getD []) := pt_ok (f := Tryz.f205) (by kernel_rfl) parok205
theorem ptok215 : PtOk 215 ((look ptsL 215).getD []) := pt_ok (f := Tryz.f215) (by kernel_rfl) parok215
theorem ptok216 : PtOk 216 ((look ptsL 216).getD []) := pt_ok (f := Tryz.f216) (by kernel_rfl) parok216
theorem pts_all : ∀ i ts, look ptsL i = some ts → PtOk i ts := look_all (Q := PtOk) (l := ptsL) (all_cons ptok22 (all_cons ptok34 (all_cons ptok37 (all_cons ptok57 (all_cons ptok59 (all_cons ptok60 (all_cons ptok65 (all_cons ptok92 (all_cons ptok93 (all_cons ptok94 (all_cons ptok95 (all_cons ptok108 (all_cons ptok112 (all_cons ptok113 (all_cons ptok144 (all_cons ptok151 (all_cons ptok152 (all_cons ptok153 (all_cons ptok154 (all_cons ptok155 (all_cons ptok156 (all_cons ptok158 (all_cons ptok159 (all_cons ptok160 (all_cons ptok161 (all_cons ptok162 (all_cons ptok163 (all_cons ptok164 (all_cons ptok167 (all_cons ptok168 (all_cons ptok179 (all_cons ptok184 (all_cons ptok185 (all_cons ptok186 (all_cons ptok195 (all_cons ptok196 (all_cons ptok197 (all_cons ptok200 (all_cons ptok201 (all_cons ptok205 (all_cons ptok215 (all_cons ptok216 all_nil))))))))))))))))))))))))))))))))))))))))))
theorem pars_ok : ∀ i fn, CT.fn (CT.fid i) = some fn → (CT.pts i).length ≤ fn.ntmps := fun i fn h => by
  show ((look ptsL i).getD []).length ≤ _
  cases hp : look ptsL i with
  | none => exact Nat.zero_le _
  | some ts => exact pts_all i ts hp fn h
theorem sound (hE : ExtOk Tryz.prog CT) : ∀ k, SpecOk Tryz.prog (sem CT k) ∧ StageOk Tryz.prog (sem CT k) := sem_sound ctx_ok hE pars_ok
theorem ext_ok : ExtOk Tryz.prog CT := ext_of (l := extL) rfl (allE_cons (ext_at (H.short_ok)) (allE_cons (ext_at (H.textDiv_ok inv_keeps (B.trim_ok inv_max))) (allE_cons (ext_at (H.cmp_ok)) (allE_cons (ext_at (H.text_ok inv_keeps (B.cut_ok inv_max) (B.trim_ok inv_max))) (allE_cons (ext_at (trimLeft_ok)) (allE_cons (ext_at (lz32_ok)) (allE_cons (ext_at (len_ok)) allE_nil)))))))
theorem spec_ok (k : Nat) : SpecP Tryz.prog (sem CT k) := spec_plain ctx_ok (sound ext_ok k).1
end Go.Proofs.YtpdfjgooaaailaaGreatDoor.C
namespace Go.Proofs.YtpdfjgooaaailaaGreatDoor.Q
open Go Go.Proofs.YtpdfjgooaaailaaGreatDoor.K Go.Proofs.YtpdfjgooaaailaaGreatDoor.C Go.Proofs.YtpdfjgooaaailaaGreatDoor.P
def ok1 (s : List UInt8) : Bool := Nat.ble s.length 1000000000
def trimQ (s : List UInt8) : Option (List UInt8) := cond (ok1 s) (some (Lib.trimLeftB s 0)) none
def ofQ (n : Int) : Option (List UInt8) := cond (decide (0 ≤ n) && decide (n < 18446744073709551616)) (some (nat n.toNat)) none
def smallQ (s : List UInt8) : Option (Int × Bool) := cond (ok1 s) (some (small (val s))) none
def addQ (y : List UInt8 × List UInt8) : Option (List UInt8) := cond (ok1 y.1 && ok1 y.2) (some (nat (val y.1 + val y.2))) none
def mulQ (y : List UInt8 × List UInt8) : Option (List UInt8) := cond (ok1 y.1 && ok1 y.2) (some (nat (val y.1 * val y.2))) none
def divQ (y : List UInt8 × List UInt8) : Option (List UInt8 × List UInt8 × Int) := cond (ok1 y.1 && ok1 y.2) (some (divmod (val y.1) (val y.2))) none
theorem ok1_le {s : List UInt8} (h : ok1 s = true) : s.length ≤ 1000000000 := Nat.le_of_ble_eq_true h
theorem ok2_le {a b : List UInt8} (h : (ok1 a && ok1 b) = true) : a.length ≤ 1000000000 ∧ b.length ≤ 1000000000 := by
  rw [Bool.and_eq_true] at h
  exact ⟨ok1_le h.1, ok1_le h.2⟩
theorem call_of {i : Nat} (hf : (C.CT.fn (C.CT.fid i)).isSome = true) {g : den (tyL (C.CT.pts i)) → Option (den (tyL (C.CT.rts i)))} (hg : ∀ y r, g y = some r → (top C.CT).callF i y = some r) {inv : World → Prop} (hi : ∀ w, inv w → MaxLen w) :
    CallT Tryz.prog (C.CT.fid i) (C.CT.pts i) (C.CT.rts i) inv g := B.callT_of (C := C.CT) C.spec_ok hf hg hi
variable {inv : World → Prop} (hi : ∀ w, inv w → MaxLen w)
include hi
theorem trim_ok : CallT Tryz.prog 153 [.str] [.str] inv trimQ := call_of (i := 153) (by kernel_rfl) (g := trimQ) (fun y r h => by
  obtain ⟨hc, rfl⟩ := cond_some h
  exact (natTrim y).trans (congrArg some (trimB y).symm)) hi
theorem of_ok : CallT Tryz.prog 163 [.int .u64] [.str] inv ofQ := call_of (i := 163) (by kernel_rfl) (g := ofQ) (fun y r h => by
  obtain ⟨hc, rfl⟩ := cond_some h
  simp only [Bool.and_eq_true, decide_eq_true_eq] at hc
  obtain ⟨n, rfl⟩ := Int.eq_ofNat_of_zero_le hc.1
  exact natOf n (by omega)) hi
theorem add_ok : CallT Tryz.prog 113 [.str, .str] [.str] inv addQ := call_of (i := 113) (by kernel_rfl) (g := addQ) (fun y r h => by
  obtain ⟨hc, rfl⟩ := cond_some h
  obtain ⟨h1, h2⟩ := ok2_le hc
  exact natAdd y.1 y.2 (by omega) (by omega)) hi
theorem mul_ok : CallT Tryz.prog 164 [.str, .str] [.str] inv mulQ := call_of (i := 164) (by kernel_rfl) (g := mulQ) (fun y r h => by
  obtain ⟨hc, rfl⟩ := cond_some h
  obtain ⟨h1, h2⟩ := ok2_le hc
  exact natMul y.1 y.2 (by omega) (by omega)) hi
theorem div_ok : CallT Tryz.prog 108 [.str, .str] [.str, .str, .int .i64] inv divQ := call_of (i := 108) (by kernel_rfl) (g := divQ) (fun y r h => by
  obtain ⟨hc, rfl⟩ := cond_some h
  obtain ⟨h1, h2⟩ := ok2_le hc
  exact divDivMod y.1 y.2 h1 h2) hi
def digitsL : Nat → Nat → List UInt8
  | 0, _ => []
  | k + 1, n => digitsL k (n / 10) ++ [UInt8.ofNat (48 + n % 10)]
def digitsQ (y : Int × Int) : Option (List UInt8) := cond (decide (0 ≤ y.1) && (decide (y.1 < 18446744073709551616) && (decide (0 ≤ y.2) && decide (y.2 ≤ 1000)))) (some (digitsL y.2.toNat y.1.toNat)) none
end Go.Proofs.YtpdfjgooaaailaaGreatDoor.Q
namespace Go.Proofs.YtpdfjgooaaailaaGreatDoor.P
open Go Go.Proofs.YtpdfjgooaaailaaGreatDoor.K Go.Proofs.YtpdfjgooaaailaaGreatDoor.C
theorem pow_256 (k : Nat) : 256 ^ k = 2 ^ (8 * k) := by rw [show (256 : Nat) = 2 ^ 8 by decide, ← Nat.pow_mul]
theorem gcd_step (a b : Nat) : Nat.gcd a b = Nat.gcd b (a % b) := by rw [Nat.gcd_comm a b, Nat.gcd_rec, Nat.gcd_comm]
theorem divGcd1 : ∀ (n a b : Nat), b ≤ n → (nat a).length ≤ 1000000000 → (nat b).length ≤ 1000000000 → divide_Gcd_1 (nat a) (nat b) = some (nat (Nat.gcd a b))
  | n, a, b, h, ha, hb => by
    by_cases h0 : b = 0
    · subst h0
      rw [divide_Gcd_1_eq, nat_zero, cF (by rfl), Nat.gcd_zero_right]
    · match n with
      | 0 => omega
      | n + 1 =>
        have hm := Nat.mod_lt a (show 0 < b by omega)
        rw [divide_Gcd_1_eq, cT (by rw [decide_eq_false (fun e => h0 (nat_eq_nil.1 e))]; rfl), divDivMod _ _ ha hb, Option.bind_some, val_nat, val_nat, divmod, if_neg h0]
        simp only
        rw [cF (by rfl), divGcd1 n b (a % b) (by omega) hb (Nat.le_trans (len_mono (Nat.le_of_lt hm)) hb), ← gcd_step]
theorem divGcd (a b : List UInt8) (ha : a.length ≤ 1000000000) (hb : b.length ≤ 1000000000) : divide_Gcd a b = some (nat (Nat.gcd (val a) (val b))) := by
  have la := nat_val_length a
  have lb := nat_val_length b
  rw [divide_Gcd_eq, natTrim, Option.bind_some, natTrim, Option.bind_some, divGcd1 _ _ _ (Nat.le_refl _) (by omega) (by omega)]
end Go.Proofs.YtpdfjgooaaailaaGreatDoor.P
namespace Go.Proofs.YtpdfjgooaaailaaGreatDoor.P
open Go Go.Proofs.YtpdfjgooaaailaaGreatDoor.K Go.Proofs.YtpdfjgooaaailaaGreatDoor.C
def powV (A n : Nat) : List UInt8 × Int := if (nat (A ^ n)).length > 1024 then ([], 9) else (nat (A ^ n), 0)
def powR (A : Nat) (n : Int) : List UInt8 × Int := if n < 0 then ([], 2) else if n = 0 then ([1], 0) else if A = 0 ∨ A = 1 then (nat A, 0) else powV A n.toNat
theorem nat_one : nat 1 = [1] := rfl
theorem neg_or (n : Int) : n < 0 ∨ ∃ k : Nat, n = (k : Int) := by
  rcases Int.lt_or_le n 0 with h | h
  · exact .inl h
  · exact .inr ⟨n.toNat, by omega⟩
theorem powV_big {A n m : Nat} (hA : 0 < A) (h : m ≤ n) (hl : (nat (A ^ m)).length > 1024) : powV A n = ([], 9) := by
  have := len_mono (Nat.pow_le_pow_right hA h)
  rw [powV, if_pos (by omega)]
theorem bit_at (n j : Nat) (hn : n ≤ 9000) (hj : j < 63) : bitop .and .i64 ((n : Int).fdiv (2 ^ min (j : Int).toNat IntKind.i64.bits)) 1 = ((n / 2 ^ j % 2 : Nat) : Int) := by
  have hp : (2 : Int) ^ min (j : Int).toNat IntKind.i64.bits = ((2 ^ j : Nat) : Int) := by
    rw [Int.toNat_natCast, show IntKind.i64.bits = 64 from rfl, Nat.min_eq_left (by omega)]; simp
  have hq : n / 2 ^ j ≤ n := Nat.div_le_self _ _
  have hpos : 0 < 2 ^ j := Nat.two_pow_pos j
  rw [hp, fd (by omega), ← Int.natCast_ediv]
  generalize n / 2 ^ j = q at hq
  have := bits_mask .i64 63 (by decide) wraps_i64 1 (by decide) (q : Int) (by omega) (by omega)
  exact this.trans (by omega)
theorem half_at (n j : Nat) : n / 2 ^ j = 2 * (n / 2 ^ (j + 1)) + n / 2 ^ j % 2 := by
  rw [Nat.pow_succ, ← Nat.div_div_eq_div_mul]
  omega
theorem divPow2 (A n : Nat) (hA : 0 < A) (hn : n ≤ 9000) (lA : (nat A).length ≤ 1024) : ∀ (j : Nat), j ≤ 60 → (nat (A ^ (n / 2 ^ j))).length ≤ 1024 → divide_Pow_2 (nat A) (n : Int) ((j : Int) - 1) (nat (A ^ (n / 2 ^ j))) = some (powV A n)
  | 0, hj, hl => by
    rw [divide_Pow_2_eq, cF (decide_eq_false (by omega)), powV]
    simp only [Nat.pow_zero, Nat.div_one] at hl ⊢
    rw [if_neg (by omega)]
  | j + 1, hj, hl => by
    have hh := half_at n j
    have hle : n / 2 ^ j ≤ n := Nat.div_le_self _ _
    have sq : A ^ (n / 2 ^ (j + 1)) * A ^ (n / 2 ^ (j + 1)) = A ^ (2 * (n / 2 ^ (j + 1))) := by rw [← Nat.pow_add]; congr 1; omega
    have over : ∀ (p : List UInt8), divide_Pow_4 (nat A) (n : Int) (j : Int) true p = some ([], 9) := fun p => by rw [divide_Pow_4_eq, cond_true]
    have next : ∀ (m : Nat), m = n / 2 ^ j → (nat (A ^ m)).length ≤ 1024 → divide_Pow_4 (nat A) (n : Int) (j : Int) false (nat (A ^ m)) = some (powV A n) := fun m hm hlm => by
      subst hm
      rw [divide_Pow_4_eq, cond_false, wrap64 (by omega) (by omega)]
      exact divPow2 A n hA hn lA j (by omega) hlm
    rw [divide_Pow_2_eq, show (((j + 1 : Nat) : Int) - 1) = (j : Int) by omega, cT (decide_eq_true (by omega)), divide_Pow_3_eq, natMul _ _ (by omega) (by omega), Option.bind_some, val_nat, sq, bit_at n j hn (by omega)]
    by_cases hg : (nat (A ^ (2 * (n / 2 ^ (j + 1))))).length ≤ 1024
    · rw [cF (by rw [decide_eq_true (by omega)]; rfl), cT (decide_eq_true (by omega))]
      have hb := Nat.mod_lt (n / 2 ^ j) (show 0 < 2 by decide)
      by_cases hbit : n / 2 ^ j % 2 = 1
      · rw [hbit, cT (by rfl), divide_Pow_5_eq, natMul _ _ (by omega) (by omega), Option.bind_some, cond_true, cond_false, val_nat, val_nat, ← Nat.pow_succ, show (2 * (n / 2 ^ (j + 1))).succ = n / 2 ^ j by omega]
        by_cases hg2 : (nat (A ^ (n / 2 ^ j))).length ≤ 1024
        · rw [decide_eq_true (by omega)]
          exact next _ rfl hg2
        · rw [decide_eq_false (by omega), powV_big hA hle (by omega)]
          exact over _
      · have hbit : n / 2 ^ j % 2 = 0 := by omega
        rw [hbit, cF (by rfl)]
        exact next _ (by omega) hg
    · rw [cT (by rw [decide_eq_false (by omega)]; rfl), over, powV_big hA (by omega) (show (nat (A ^ (2 * (n / 2 ^ (j + 1))))).length > 1024 by omega)]
theorem powV_huge (A n : Nat) (hA : 2 ≤ A) (hn : 8192 < n) : powV A n = ([], 9) := by
  rw [powV, if_pos]
  rcases Nat.lt_or_ge 1024 (nat (A ^ n)).length with h | h
  · exact h
  · exfalso
    have hv := val_lt (nat (A ^ n))
    rw [val_nat, pow_256] at hv
    have h1 : 2 ^ n ≤ A ^ n := Nat.pow_le_pow_left hA n
    have h2 : 2 ^ (8 * (nat (A ^ n)).length) ≤ 2 ^ n := Nat.pow_le_pow_right (by decide) (by omega)
    omega
theorem divPow (a : List UInt8) (ha : a.length ≤ 1024) (n : Int) (hn : n ≤ 9000) : divide_Pow a n = some (powR (val a) n) := by
  have la := nat_val_length a
  have o1 : nat_Of 1 = some [1] := natOf 1 (by decide)
  rw [divide_Pow_eq, natTrim, Option.bind_some, powR]
  rcases neg_or n with h | ⟨k, rfl⟩
  · rw [cT (decide_eq_true h), if_pos h]
  · rw [cF (decide_eq_false (by omega)), if_neg (by omega)]
    by_cases h0 : k = 0
    · subst h0
      rw [cT (by rfl), o1, if_pos (show ((0 : Nat) : Int) = 0 from rfl)]; rfl
    · rw [cF (decide_eq_false (by omega)), if_neg (by omega)]
      by_cases hA : val a = 0
      · rw [cT (decide_eq_true (nat_eq_nil.2 hA)), divide_Pow_1_eq, cond_true, if_pos (.inl hA)]
      · rw [cF (decide_eq_false (fun e => hA (nat_eq_nil.1 e))), o1, Option.bind_some, divide_Pow_1_eq]
        by_cases h1 : val a = 1
        · rw [cT (decide_eq_true (by rw [h1]; rfl)), if_pos (.inr h1)]
        · rw [cF (decide_eq_false (fun e => h1 (by rw [← nat_one] at e; exact nat_inj.1 e))), if_neg (by omega), Int.toNat_natCast]
          by_cases h2 : (k : Int) > 8192
          · rw [cT (decide_eq_true h2), powV_huge _ _ (by omega) (by omega)]
          · have hb := (blen_bounds k).1
            have hl : math_bits_Len (IntKind.u64.wrap (k : Int)) = some ((blen k : Nat) : Int) := by
              refine (top_call ..).trans ?_
              show len64F _ = _
              unfold len64F
              rw [wrapU64 (by omega) (by omega), cT (by simp; omega), Int.toNat_natCast, bitLen_blen k (by omega)]
            have hb32 := blen_le k (by omega)
            have hz : k / 2 ^ blen k = 0 := Nat.div_eq_of_lt hb
            have := divPow2 (val a) k (by omega) (by omega) (by omega) (blen k) (by omega) (by rw [hz, Nat.pow_zero, nat_one]; simp)
            rw [hz, Nat.pow_zero, nat_one] at this
            rw [cF (decide_eq_false h2), o1, Option.bind_some, hl, Option.bind_some, wrap64 (by omega) (by omega)]
            exact this
end Go.Proofs.YtpdfjgooaaailaaGreatDoor.P
namespace Go.Proofs.YtpdfjgooaaailaaGreatDoor.Q
open Go Go.Proofs.YtpdfjgooaaailaaGreatDoor.K Go.Proofs.YtpdfjgooaaailaaGreatDoor.C Go.Proofs.YtpdfjgooaaailaaGreatDoor.P
def ok3 (s : List UInt8) : Bool := Nat.ble s.length 1000
def cmpQ (y : List UInt8 × List UInt8) : Option Int := cond (ok1 y.1 && ok1 y.2) (some (sgnv (val y.1) (val y.2))) none
def gcdQ (y : List UInt8 × List UInt8) : Option (List UInt8) := cond (ok3 y.1 && ok3 y.2) (some (nat (Nat.gcd (val y.1) (val y.2)))) none
def powQ (y : List UInt8 × Int) : Option (List UInt8 × Int) := cond (ok3 y.1 && decide (y.2 ≤ 9000)) (some (powR (val y.1) y.2)) none
theorem le9 (n : Int) (h : decide (n ≤ 9000) = true) : n ≤ 9000 := of_decide_eq_true h
theorem ok3_le {s : List UInt8} (h : ok3 s = true) : s.length ≤ 1000 := Nat.le_of_ble_eq_true h
theorem ok33_le {a b : List UInt8} (h : (ok3 a && ok3 b) = true) : a.length ≤ 1000 ∧ b.length ≤ 1000 := by
  rw [Bool.and_eq_true] at h
  exact ⟨ok3_le h.1, ok3_le h.2⟩
variable {inv : World → Prop} (hi : ∀ w, inv w → MaxLen w)
include hi
theorem cmp_ok : CallT Tryz.prog 112 [.str, .str] [.int .i64] inv cmpQ := call_of (i := 112) (by kernel_rfl) (g := cmpQ) (fun y r h => by
  obtain ⟨hc, rfl⟩ := cond_some h
  obtain ⟨h1, h2⟩ := ok2_le hc
  exact natCmp y.1 y.2 (by omega) (by omega)) hi
theorem gcd_ok : CallT Tryz.prog 179 [.str, .str] [.str] inv gcdQ := call_of (i := 179) (by kernel_rfl) (g := gcdQ) (fun y r h => by
  obtain ⟨hc, rfl⟩ := cond_some h
  obtain ⟨h1, h2⟩ := ok33_le hc
  exact divGcd y.1 y.2 (by omega) (by omega)) hi
theorem pow_ok : CallT Tryz.prog 162 [.str, .int .i64] [.str, .int .i64] inv powQ := call_of (i := 162) (by kernel_rfl) (g := powQ) (fun y r h => by
  obtain ⟨hc, rfl⟩ := cond_some h
  rw [Bool.and_eq_true] at hc
  have h1 := ok3_le hc.1
  exact divPow y.1 (by omega) y.2 (le9 _ hc.2)) hi
end Go.Proofs.YtpdfjgooaaailaaGreatDoor.Q
namespace Go.Proofs.YtpdfjgooaaailaaGreatDoor.Q
open Go Go.RowKit Go.Shelf
open Go.Proofs.YtpdfjgooaaailaaGreatDoor.K (Ty den tyL RetT CallT cond_some ret_str denStr DenL DenL_2 DenL_1 DenV DeepC ResL_plain hasOwn oneV MaxLen)
open Go.Proofs.YtpdfjgooaaailaaGreatDoor.P (nat val divmod small nat_val_length len_mono val_nat nat_eq_nil nat_zero)
theorem writeStr (B b : Nat) (bs : List Value) (s : ByteArray) (w : World) (h : Lib.IsBuilderF 141 5 B b bs w) (hlen : bs.length + s.size ≤ 140737488355328) (hBw : B ≤ w.heap.size) :
    Calls Tryz.prog 123 #[.pointer (some ⟨b, 0, none⟩), .string s] w fun e w' => e = .returned (.tuple #[.int .i64 s.size, .nilIface]) ∧ (Lib.BuilderAtF 141 5 B b (.pointer (some ⟨b, 0, none⟩)) (bs ++ Lib.strCells s) w' ∧ Below B w w' ∧ Lib.OthersKept 5 (some b) w w') :=
  Any.Builder_WriteString_k (P := Tryz.prog) (ρ := Tryz.lays156_ren) { Tryz.lays156 with } Tryz.Builder_Extra_156 B b bs s w h hlen hBw
theorem ret_any {ts : List Ty} {w w' : World} {fz0 : Nat → Prop} {r : den (tyL ts)} {e : Ending} (ho : hasOwn (tyL ts) = false) (h : RetT ts w fz0 r e w') : ∃ (ok : Nat → Prop) (vs : List Value), e = .returned (oneV vs) ∧ Below w.heap.size w w' ∧ DenL w'.heap ok ts r vs := by
  obtain ⟨v, rfl, hb, ow, ok, vs, _, _, _, rfl, hres⟩ := h
  exact ⟨ok, vs, rfl, hb, (ResL_plain ts ho hres).2⟩
theorem denS {hp : Array Obj} {ok : Nat → Prop} {r : List UInt8} {v : Value} (h : DenV hp ok .str r v) : v = .string ⟨r.toArray⟩ := by
  have h : Ty.str ≠ .unit ∧ [v] = [Value.string ⟨r.toArray⟩] := h
  simpa using h.2
theorem denI {hp : Array Obj} {ok : Nat → Prop} {k : IntKind} {r : Int} {v : Value} (h : DenV hp ok (.int k) r v) : v = .int k r := by
  have h : Ty.int k ≠ .unit ∧ [v] = [Value.int k r] := h
  simpa using h.2
theorem denB {hp : Array Obj} {ok : Nat → Prop} {r : Bool} {v : Value} (h : DenV hp ok .bool r v) : v = .bool r := by
  have h : Ty.bool ≠ .unit ∧ [v] = [Value.bool r] := h
  simpa using h.2
theorem denL2 {hp : Array Obj} {ok : Nat → Prop} {t u : Ty} {ts : List Ty} {x : den t} {y : den (tyL (u :: ts))} {v : Value} {vs : List Value} (h : DenV hp ok t x v) (h' : DenL hp ok (u :: ts) y vs) : DenL hp ok (t :: u :: ts) ((x, y) : den t × den (tyL (u :: ts))) (v :: vs) := by
  show ∃ v0 vs0, v :: vs = v0 :: vs0 ∧ DenV hp ok t x v0 ∧ DenL hp ok (u :: ts) y vs0
  exact ⟨v, vs, rfl, h, h'⟩
theorem denS' {hp : Array Obj} {ok : Nat → Prop} (r : List UInt8) : DenV hp ok .str r (.string ⟨r.toArray⟩) := by
  show Ty.str ≠ .unit ∧ [Value.string ⟨r.toArray⟩] = [Value.string ⟨r.toArray⟩]
  exact ⟨by simp, rfl⟩
theorem denI' {hp : Array Obj} {ok : Nat → Prop} (k : IntKind) (r : Int) : DenV hp ok (.int k) r (.int k r) := by
  show Ty.int k ≠ .unit ∧ [Value.int k r] = [Value.int k r]
  exact ⟨by simp, rfl⟩
theorem denN {hp : Array Obj} {ok : Nat → Prop} (k : IntKind) (r : Int) : DenL hp ok [.int k] r [.int k r] := by
  show ∃ v, [Value.int k r] = [v] ∧ DenV hp ok (.int k) r v
  exact ⟨_, rfl, denI' k r⟩
def strLen : Value → Nat
  | .string s => s.size
  | _ => 0
end Go.Proofs.YtpdfjgooaaailaaGreatDoor.Q
namespace Go.Proofs.YtpdfjgooaaailaaGreatDoor.Q
open Go Go.RowKit Go.Shelf
open Go.Proofs.YtpdfjgooaaailaaGreatDoor.K (Ty den tyL RetT CallT cond_some ret_str denStr DenL DenL_2 DenL_1 DenV DeepC ResL_plain hasOwn oneV MaxLen)
open Go.Proofs.YtpdfjgooaaailaaGreatDoor.P (nat val divmod small nat_val_length len_mono val_nat nat_eq_nil nat_zero)
variable {inv : World → Prop}
theorem cTrim (h : CallT Tryz.prog 153 [.str] [.str] inv trimQ) (s : List UInt8) (hs : s.length ≤ 1000000000) (W : World) (hi : inv W) :
    Calls Tryz.prog 153 #[.string ⟨s.toArray⟩] W fun e w' => e = .returned (.string ⟨(nat (val s)).toArray⟩) ∧ Below W.heap.size W w' := by
  have hg : trimQ s = some (nat (val s)) := by unfold trimQ ok1; rw [show Nat.ble s.length 1000000000 = true from Nat.ble_eq_true_of_le hs, cond_true, P.trimB]
  exact (h s _ hg W (fun _ => False) [.string ⟨s.toArray⟩] (fun _ h => h.elim) hi (denStr s)).mono fun e w' hr => ret_str hr
theorem cOf (h : CallT Tryz.prog 163 [.int .u64] [.str] inv ofQ) (W : World) (hi : inv W) :
    Calls Tryz.prog 163 #[.int .u64 1000000000] W fun e w' => e = .returned (.string ⟨(nat 1000000000).toArray⟩) ∧ Below W.heap.size W w' :=
  (h (1000000000 : Int) (nat 1000000000) rfl W (fun _ => False) [.int .u64 1000000000] (fun _ h => h.elim) hi ⟨_, rfl, denI' .u64 1000000000⟩).mono fun e w' hr => ret_str hr
theorem cDiv (h : CallT Tryz.prog 108 [.str, .str] [.str, .str, .int .i64] inv divQ) (m : Nat) (hm : (nat m).length ≤ 1000000000) (W : World) (hi : inv W) :
    Calls Tryz.prog 108 #[.string ⟨(nat m).toArray⟩, .string ⟨(nat 1000000000).toArray⟩] W fun e w' =>
      e = .returned (.tuple #[.string ⟨(nat (m / 1000000000)).toArray⟩, .string ⟨(nat (m % 1000000000)).toArray⟩, .int .i64 0]) ∧ Below W.heap.size W w' := by
  have hl : (nat 1000000000).length ≤ 1000000000 := by decide
  have hg : divQ (nat m, nat 1000000000) = some (nat (m / 1000000000), nat (m % 1000000000), 0) := by
    unfold divQ ok1
    simp only
    rw [show Nat.ble (nat m).length 1000000000 = true from Nat.ble_eq_true_of_le hm, show Nat.ble (nat 1000000000).length 1000000000 = true from Nat.ble_eq_true_of_le hl, Bool.and_self, cond_true, val_nat, val_nat, divmod, if_neg (by decide)]
  refine (h (nat m, nat 1000000000) _ hg W (fun _ => False) [.string ⟨(nat m).toArray⟩, .string ⟨(nat 1000000000).toArray⟩] (fun _ h => h.elim) hi (denL2 (denS' _) (denStr _))).mono fun e w' hr => ?_
  obtain ⟨ok, vs, rfl, hb, hd⟩ := ret_any rfl hr
  obtain ⟨v1, vs1, rfl, h1, hd⟩ := hd
  obtain ⟨v2, vs2, rfl, h2, hd⟩ := hd
  obtain ⟨v3, rfl, h3⟩ := hd
  obtain rfl := denS h1
  obtain rfl := denS h2
  obtain rfl := denI h3
  exact ⟨rfl, hb⟩
theorem cSmall (h : CallT Tryz.prog 151 [.str] [.int .u64, .bool] inv smallQ) (r : Nat) (hr : r < 1000000000) (W : World) (hi : inv W) :
    Calls Tryz.prog 151 #[.string ⟨(nat r).toArray⟩] W fun e w' => e = .returned (.tuple #[.int .u64 (r : Int), .bool true]) ∧ Below W.heap.size W w' := by
  have hl : (nat r).length ≤ 4 := P.nat_length_le (by omega)
  have hg : smallQ (nat r) = some ((r : Int), true) := by
    unfold smallQ ok1
    rw [show Nat.ble (nat r).length 1000000000 = true from Nat.ble_eq_true_of_le (by omega), cond_true, val_nat, small, if_pos (by omega)]
  refine (h (nat r) _ hg W (fun _ => False) [.string ⟨(nat r).toArray⟩] (fun _ h => h.elim) hi (denStr _)).mono fun e w' hr => ?_
  obtain ⟨ok, vs, rfl, hb, hd⟩ := ret_any rfl hr
  obtain ⟨v1, vs1, rfl, h1, hd⟩ := hd
  obtain ⟨v2, rfl, h2⟩ := hd
  obtain rfl := denI h1
  obtain rfl := denB h2
  exact ⟨rfl, hb⟩
theorem cDig (h : CallT Tryz.prog 167 [.int .u64, .int .i64] [.str] inv digitsQ) (r : Nat) (hr : r < 1000000000) (W : World) (hi : inv W) :
    Calls Tryz.prog 167 #[.int .u64 (r : Int), .int .i64 9] W fun e w' => e = .returned (.string ⟨(digitsL 9 r).toArray⟩) ∧ Below W.heap.size W w' := by
  have hg : digitsQ (((r : Int), (9 : Int)) : Int × Int) = some (digitsL 9 r) := by
    unfold digitsQ
    rw [show (decide ((0 : Int) ≤ (((r : Int), (9 : Int)) : Int × Int).1) && (decide ((((r : Int), (9 : Int)) : Int × Int).1 < 18446744073709551616) && (decide ((0 : Int) ≤ (((r : Int), (9 : Int)) : Int × Int).2) && decide ((((r : Int), (9 : Int)) : Int × Int).2 ≤ 1000)))) = true by simp; omega, cond_true]; rfl
  exact (h (((r : Int), (9 : Int)) : Int × Int) _ hg W (fun _ => False) [.int .u64 (r : Int), .int .i64 9] (fun _ h => h.elim) hi (denL2 (u := .int .i64) (ts := []) (y := (9 : Int)) (denI' .u64 (r : Int)) (denN .i64 9))).mono fun e w' hr => ret_str hr
theorem cTL (l : List UInt8) (W : World) : Calls Tryz.prog 168 #[.string ⟨l.toArray⟩, .string ⟨#[48]⟩] W fun e w' => e = .returned (.string ⟨(Lib.trimLeftB l 48).toArray⟩) ∧ Below W.heap.size W w' :=
  (K.trimLeft_ok (inv := fun _ => True) (l, [48]) (Lib.trimLeftB l 48) rfl W (fun _ => False) [.string ⟨l.toArray⟩, .string ⟨#[48]⟩] (fun _ h => h.elim) trivial (denL2 (denS' l) (denStr [48]))).mono fun e w' hr => ret_str hr
def decPartsF : Nat → Nat → List (List UInt8)
  | 0, _ => []
  | f + 1, n => if n = 0 then [] else digitsL 9 (n % 1000000000) :: decPartsF f (n / 1000000000)
def decParts (n : Nat) : List (List UInt8) := decPartsF n n
theorem decPartsF_eq : ∀ (f g n : Nat), n ≤ f → n ≤ g → decPartsF f n = decPartsF g n
  | 0, g, n, h1, h2 => by
    obtain rfl : n = 0 := by omega
    cases g <;> simp [decPartsF]
  | f + 1, 0, n, h1, h2 => by
    obtain rfl : n = 0 := by omega
    simp [decPartsF]
  | f + 1, g + 1, n, h1, h2 => by
    by_cases h : n = 0
    · subst h; simp [decPartsF]
    · rw [decPartsF, decPartsF, if_neg h, if_neg h, decPartsF_eq f g (n / 1000000000) (by omega) (by omega)]
theorem decParts_zero : decParts 0 = [] := rfl
theorem decParts_pos {n : Nat} (h : n ≠ 0) : decParts n = digitsL 9 (n % 1000000000) :: decParts (n / 1000000000) := by
  obtain ⟨m, rfl⟩ : ∃ m, n = m + 1 := ⟨n - 1, by omega⟩
  conv => lhs; unfold decParts
  rw [decPartsF, if_neg h, decPartsF_eq m ((m + 1) / 1000000000) _ (by omega) (Nat.le_refl _)]; rfl
def decTrim (l : List UInt8) : List UInt8 := cond (decide (Lib.trimLeftB l 48 = [])) [48] (Lib.trimLeftB l 48)
def decText (n : Nat) : List UInt8 := decTrim ((decParts n).reverse.flatten)
theorem len_div (n : Nat) (h : n ≠ 0) : (nat (n / 1000000000)).length + 1 ≤ (nat n).length := by
  have h1 : (nat n).length = (nat (n / 256)).length + 1 := by rw [P.nat_length, P.nat_length, P.digs_pos h]; simp
  have := len_mono (show n / 1000000000 ≤ n / 256 by omega)
  omega
theorem decParts_len (n : Nat) : (decParts n).length ≤ (nat n).length := by
  induction n using Nat.strongRecOn with
  | _ n ih =>
    by_cases h : n = 0
    · subst h; rw [decParts_zero]; exact Nat.zero_le _
    · have := ih (n / 1000000000) (by omega)
      have := len_div n h
      rw [decParts_pos h, List.length_cons]; omega
theorem own_keep {w W : World} {n : Nat} {e : TypeId} {size : Nat} {v : Value} {k : Nat} {xs : List Value} (h : w.ownsRow n e size v k xs) (hb : Below w.heap.size w W) : W.ownsRow n e size v k xs := by
  refine ⟨h.1, ?_⟩
  rcases h.2 with h | ⟨g, cap, cur, h1, h2, h3, h4⟩
  · exact .inl h
  · exact .inr ⟨g, cap, cur, h1, h2, (hb.block g (Array.getElem?_eq_some_iff.1 h3).1).trans h3, h4⟩
theorem own_cells {w : World} {n : Nat} {ao : Option Addr} {cv : Nat} {ps : List (List UInt8)} (h : w.ownsRow n 9 1 (.slice ao ps.length cv) ps.length (ps.map fun p => Value.string ⟨p.toArray⟩)) (hp : 0 < ps.length) :
    ∃ g, ao = some ⟨g, 0, none⟩ ∧ ∀ i, i < ps.length → w.cell? ⟨g, i, none⟩ = some (.string ⟨(ps.getD i []).toArray⟩) := by
  rcases h.2 with ⟨_, h⟩ | ⟨g, cap, cur, h1, h2, h3, h4, h5, h6, h7⟩
  · omega
  · injection h1 with h1 _ h8
    refine ⟨g, h1, fun i hi => ?_⟩
    have e : (ps.map fun p => Value.string ⟨p.toArray⟩)[i]? = some (.string ⟨(ps.getD i []).toArray⟩) := by
      rw [List.getElem?_map, List.getElem?_eq_getElem hi, List.getD_eq_getElem?_getD, List.getElem?_eq_getElem hi]; rfl
    rw [← h7, List.getElem?_take, if_pos (by omega)] at e
    simp only [World.cell?, h3]
    simpa using e
theorem own_lt {w : World} {n : Nat} {e : TypeId} {size : Nat} {g : Nat} {k c : Nat} {xs : List Value} (h : w.ownsRow n e size (.slice (some ⟨g, 0, none⟩) k c) k xs) : g < w.heap.size := (h.lt g (by simp [Value.ownBlock])).2
theorem digitsL_length : ∀ k n, (digitsL k n).length = k
  | 0, _ => rfl
  | k + 1, n => by rw [digitsL, List.length_append, digitsL_length k]; rfl
theorem decParts_nine (n : Nat) : ∀ p ∈ decParts n, p.length = 9 := by
  induction n using Nat.strongRecOn with
  | _ n ih =>
    by_cases h : n = 0
    · subst h; rw [decParts_zero]; intro p hp; cases hp
    · rw [decParts_pos h]
      intro p hp
      rcases List.mem_cons.1 hp with rfl | hp
      · exact digitsL_length _ _
      · exact ih _ (by omega) p hp
theorem flat9 (l : List (List UInt8)) (h : ∀ p ∈ l, p.length = 9) : l.flatten.length = 9 * l.length := by
  induction l with
  | nil => rfl
  | cons a l ih =>
    have h1 := h a (List.mem_cons_self ..)
    have h2 := ih fun p hp => h p (List.mem_cons_of_mem _ hp)
    rw [List.flatten_cons, List.length_append, h1, h2, List.length_cons]; omega
theorem take_rev (ps : List (List UInt8)) (k : Nat) (h : k < ps.length) : (ps.reverse.take (k + 1)).flatten = (ps.reverse.take k).flatten ++ ps.getD (ps.length - 1 - k) [] := by
  rw [List.take_add_one, List.getElem?_reverse h, List.getElem?_eq_getElem (by omega), List.getD_eq_getElem?_getD, List.getElem?_eq_getElem (by omega)]
  simp
def HidP (p : Prop) : Prop := p
set_option maxRecDepth 1000000 in
set_option maxHeartbeats 4000000 in
theorem main (hk : ∀ w w', inv w → Below w.heap.size w w' → inv w') (hTrim : CallT Tryz.prog 153 [.str] [.str] inv trimQ) (hOf : CallT Tryz.prog 163 [.int .u64] [.str] inv ofQ)
    (hDiv : CallT Tryz.prog 108 [.str, .str] [.str, .str, .int .i64] inv divQ) (hSmall : CallT Tryz.prog 151 [.str] [.int .u64, .bool] inv smallQ) (hDig : CallT Tryz.prog 167 [.int .u64, .int .i64] [.str] inv digitsQ)
    (s : List UInt8) (hs : s.length ≤ 1000000000) (w : World) (hw : inv w) :
    Calls Tryz.prog 118 #[.string ⟨s.toArray⟩] w fun e w' => e = .returned (.string ⟨(decText (val s)).toArray⟩) ∧ Below w.heap.size w w' := by
  have hkk : ∀ W, Below w.heap.size w W → inv W := fun W hb => hk w W hw hb
  have l0 := nat_val_length s
  have hi9 : (Tryz.prog.info? 9).map (fun i => (i.zero, i.size, i.bytes)) = some (some (.string ByteArray.empty), 1, 16) := by kernel_rfl
  obtain ⟨i0, hi, hz0, hz1, hz2⟩ := info_parts hi9
  clear hi9
  go_enter Tryz.func118, Tryz.ntmps118
  go_wp2_with (go_at_call 153; refine (cTrim hTrim s hs _ hw).mono ?_; rintro e w1 ⟨rfl, hb1⟩)
  go_loopw [0, 3] (fun a v wr => ∃ (m : Nat) (ps : List (List UInt8)) (ao : Option Addr) (cv : Nat), a = .string ⟨(nat m).toArray⟩ ∧ m ≤ val s ∧ v = .slice ao ps.length cv ∧ wr.ownsRow w.heap.size 9 1 v ps.length (ps.map fun p => Value.string ⟨p.toArray⟩) ∧ Below w.heap.size w wr ∧ ps ++ decParts m = decParts (val s)) (fun a _ _ => strLen a)
  case atStart =>
    refine ⟨val s, [], none, 0, rfl, Nat.le_refl _, rfl, World.ownsRow_nil _ _ _ _, hb1, rfl⟩
  case round =>
    obtain ⟨m, ps, ao, cv, rfl, hm, rfl, hown, hbw, hps⟩ := hrel
    have lps : ps.length ≤ 1000000000 := by
      have h1 := congrArg List.length hps
      have h2 := decParts_len (val s)
      rw [List.length_append] at h1
      omega
    by_cases h0 : m = 0
    · subst h0
      go_wp2
      have hwsz := hbw.size
      have hpe0 : ps = decParts (val s) := by simpa [decParts_zero] using hps
      have h9 : ∀ p ∈ ps, p.length = 9 := by rw [hpe0]; exact decParts_nine _
      have hpe : HidP (ps = decParts (val s)) := hpe0
      clear hpe0 hps
      go_loopw [38] (fun i wr2 => ∃ k : Nat, k ≤ ps.length ∧ i = .int .i64 k ∧ Lib.IsBuilderF 141 5 wr.heap.size wr.heap.size (Lib.byteCells (ps.reverse.take k).flatten) wr2 ∧ Below wr.heap.size wr wr2) (fun i _ => ps.length - (intOf i).toNat)
      case atStart =>
        exact ⟨0, Nat.zero_le _, rfl, Lib.IsBuilderF.of (Lib.fresh_isBuilder 141 5 wr), (Below.refl _ wr).alloc (Nat.le_refl _) _⟩
      case round =>
        obtain ⟨k, hk, rfl, hbd, hbr⟩ := hrel
        by_cases hkl : k < ps.length
        · obtain ⟨g, rfl, hcell⟩ := own_cells hown (by omega)
          have hidx : wrap64 (wrap64 ((ps.length : Int) - 1) - (k : Int)) = ((ps.length - 1 - k : Nat) : Int) := by unfold wrap64; omega
          have hc1 := hcell (ps.length - 1 - k) (by omega)
          have hc2 := (hbr.cell (p := ⟨g, ps.length - 1 - k, none⟩) (own_lt hown)).trans hc1
          have hfl : (ps.reverse.take k).flatten.length = 9 * k := by
            rw [flat9 _ (fun p hp => h9 p (by simpa using List.mem_of_mem_take hp)), List.length_take, List.length_reverse, Nat.min_eq_left hk]
          have hp9 : (ps.getD (ps.length - 1 - k) []).length = 9 := by
            rw [List.getD_eq_getElem?_getD, List.getElem?_eq_getElem (by omega)]
            exact h9 _ (List.getElem_mem _)
          have hsz2 := hbr.size
          go_wp2_with (go_at_call 123; refine (writeStr _ _ _ ⟨(ps.getD (ps.length - 1 - k) []).toArray⟩ _ hbd (by rw [Lib.byteCells_length, hfl]; show 9 * k + (ps.getD (ps.length - 1 - k) []).toArray.size ≤ _; rw [List.size_toArray]; omega) hsz2).mono ?_; rintro e W1 ⟨rfl, h1, b1, k1⟩)
          go_roundw
          case rel =>
            have R : k + 1 ≤ ps.length ∧ Value.int .i64 ((k : Int) + 1) = .int .i64 ((k + 1 : Nat) : Int) ∧ Lib.IsBuilderF 141 5 _ _ (Lib.byteCells (ps.reverse.take (k + 1)).flatten) W1 ∧ Below _ _ W1 :=
              ⟨by omega, by go_num, by rw [take_rev ps k hkl, Lib.byteCells_append]; exact Or.inr h1, hbr.trans b1⟩
            first
              | exact ⟨k + 1, R⟩
              | ((repeat apply Exists.intro); exact ⟨⟨k + 1, R⟩, rfl⟩)
          case measure => simp [intOf]; omega
        · have hsz2 := hbr.size
          have hkp : k = ps.length := by omega
          subst hkp
          rw [show ps.reverse.take ps.length = ps.reverse by rw [← List.length_reverse, List.take_length]] at hbd
          go_wp2_with (first
            | (go_at_call 125; refine (Tryz.Builder_String_any_k _ _ _ _ hbd hsz2).mono ?_; rintro e W1 ⟨rfl, h1, b1, k1⟩)
            | (go_at_call 168; refine (cTL _ _).mono ?_; rintro e W2 ⟨rfl, b2⟩))
          all_goals have hbl := (hbw.trans ((hbr.trans b1).mono hwsz)).trans (b2.mono (hbw.trans ((hbr.trans b1).mono hwsz)).size)
          all_goals have hpq : ps = decParts (val s) := hpe
          · have hb : (Lib.trimLeftB ps.reverse.flatten 48).isEmpty = true := by assumption
            go_ret
            refine ⟨?_, hbl⟩
            rw [decText, ← hpq, decTrim, List.isEmpty_iff.1 hb]; rfl
          · have hb : (Lib.trimLeftB ps.reverse.flatten 48).isEmpty = false := by assumption
            go_ret
            refine ⟨?_, hbl⟩
            rw [decText, ← hpq, decTrim, decide_eq_false (by intro e; rw [e] at hb; cases hb)]; rfl
    · have hne : ¬ ((⟨(nat m).toArray⟩ : ByteArray) = ⟨#[]⟩) := fun e => h0 (nat_eq_nil.1 (by simpa using congrArg (fun b : ByteArray => b.data.toList) e))
      have he : (nat m).isEmpty = false := by
        cases h : nat m with
        | nil => exact absurd (nat_eq_nil.1 h) h0
        | cons => rfl
      have lm : (nat m).length ≤ 1000000000 := Nat.le_trans (len_mono hm) (by omega)
      have hr9 := Nat.mod_lt m (show 0 < 1000000000 by decide)
      go_wp2_with (first
        | (go_at_call 163; refine (cOf hOf _ (hkk _ hbw)).mono ?_; rintro e W1 ⟨rfl, b1⟩; have hbw1 := hbw.trans (b1.mono hbw.size))
        | (go_at_call 108; refine (cDiv hDiv m lm _ (hkk _ hbw1)).mono ?_; rintro e W2 ⟨rfl, b2⟩; have hbw2 := hbw1.trans (b2.mono hbw1.size))
        | (go_at_call 151; refine (cSmall hSmall _ hr9 _ (hkk _ hbw2)).mono ?_; rintro e W3 ⟨rfl, b3⟩; have hbw3 := hbw2.trans (b3.mono hbw2.size))
        | (go_at_call 167; refine (cDig hDig _ hr9 _ (hkk _ hbw3)).mono ?_; rintro e W4 ⟨rfl, b4⟩; have hbw4 := hbw3.trans (b4.mono hbw3.size); have hall := ((b1.trans (b2.mono b1.size)).trans (b3.mono (b1.trans (b2.mono b1.size)).size)).trans (b4.mono ((b1.trans (b2.mono b1.size)).trans (b3.mono (b1.trans (b2.mono b1.size)).size)).size); have hs4 := hbw4.size)
        | (at_builtin; refine wpList_append_own _ rfl _ _ 22 rfl w.heap.size 9 i0 (.string ByteArray.empty) 1 16 Tryz.underlying22 hi hz0 hz1 hz2 rfl (by decide) _ _ _ rfl ((own_keep hown hall).alloc _) ⟨W4.heap.size, 0, none⟩ 1 1 [.string ⟨(digitsL 9 (m % 1000000000)).toArray⟩] rfl rfl (cell_one_new _ _ _) (fun x hx => by simp at hx; subst hx; rfl) (by unfold maxLen; omega) (by omega) (by simp; omega) ?_; intro v' w5 hown' hgrow5 hnil5))
      obtain ⟨g3, cap3, rfl⟩ := ownsRow_succ hown'
      have hsz1 := len_div m h0
      exact ⟨⟨m / 1000000000, ps ++ [digitsL 9 (m % 1000000000)], some ⟨g3, 0, none⟩, cap3, rfl, by omega, by simp, by rw [List.map_append, List.length_append]; exact hown', (hbw4.alloc hs4 _).grown hgrow5 (by simp; omega) (fun q hq => (hown.lt q hq).1), by rw [List.append_assoc, ← hps, decParts_pos h0]; rfl⟩, by
        show (nat (m / 1000000000)).toArray.size < (nat m).toArray.size
        simp; omega⟩
end Go.Proofs.YtpdfjgooaaailaaGreatDoor.Q
namespace Go.Proofs.YtpdfjgooaaailaaGreatDoor.H
open Go Go.RowKit Go.Shelf
open Go.Proofs.YtpdfjgooaaailaaGreatDoor.K (Ty den tyL RetT CallT cond_some ret_str denStr)
def capN (c : Nat) : Bool := decide (65 ≤ c) && decide (c ≤ 90)
def digN (c : Nat) : Bool := decide (48 ≤ c) && decide (c ≤ 57)
def mayAt (l : List UInt8) (j : Nat) : Bool := capN (l.getD j 0).toNat || (decide (j ≠ 0) && digN (l.getD j 0).toNat)
def namedB (l : List UInt8) : Bool := decide (l ≠ []) && (decide (l.length ≤ 12) && (List.range l.length).all (mayAt l))
def namedF (l : List UInt8) : Option Bool := some (namedB l)
theorem named_not {l : List UInt8} {j : Nat} (hj : j < l.length) (h : mayAt l j = false) : namedB l = false := by
  unfold namedB
  have : (List.range l.length).all (mayAt l) = false := by
    rw [List.all_eq_false]
    exact ⟨j, List.mem_range.2 hj, by simp [h]⟩
  rw [this]; simp
theorem may_b {l : List UInt8} {pos b : Nat} (hb : b = (l.getD pos 0).toNat) : mayAt l pos = (capN b || (decide (pos ≠ 0) && digN b)) := by subst hb; rfl
theorem walk (l : List UInt8) (w : World) :
    Calls Tryz.prog 15 #[.string ⟨l.toArray⟩] w fun e w' => e = .returned (.bool (namedB l)) ∧ ∃ pos, w' = w.iter ⟨l.toArray⟩ pos := by
  go_enter Tryz.func15, Tryz.ntmps15
  go_wp2
  go_loopw [3] (fun n w' => ∃ (pos : Nat), w' = w.iter ⟨l.toArray⟩ pos ∧ ∀ j, j < pos → mayAt l j = true) (fun _ w' => l.length - w'.iterPos w.heap.size)
  case atStart => exact ⟨0, rfl, fun j hj => absurd hj (Nat.not_lt_zero j)⟩
  case round =>
    obtain ⟨pos, rfl, hok⟩ := hrel
    by_cases hp : pos < (⟨l.toArray⟩ : ByteArray).size
    · obtain ⟨c, hc⟩ : ∃ c : Int, c = (Utf8.decode ⟨l.toArray⟩ pos).1 := ⟨_, rfl⟩
      have hnx : ∀ ty, (Instr.next (.pointer (some ⟨w.heap.size, 0, none⟩)) true ty).run Tryz.prog (w.iter ⟨l.toArray⟩ pos) = _ := fun ty => run_next_any w ⟨l.toArray⟩ pos ty hp
      rw [← hc] at hnx
      have hpl : pos < l.length := by have h := hp; rwa [show (⟨l.toArray⟩ : ByteArray).size = l.length by simp [ByteArray.size]] at h
      have hget : (⟨l.toArray⟩ : ByteArray)[pos]'hp = l.getD pos 0 := by
        rw [List.getD_eq_getElem?_getD, List.getElem?_eq_getElem hpl]; rfl
      obtain ⟨b, hb⟩ : ∃ b, b = (l.getD pos 0).toNat := ⟨_, rfl⟩
      have hcb : (b < 128 ∧ c = b) ∨ (128 ≤ b ∧ 128 ≤ c) := by
        rcases Nat.lt_or_ge b 128 with h | h
        · left
          refine ⟨h, ?_⟩
          rw [hc, decode_ascii _ pos hp (by rw [hget]; omega), hget, ← hb]
        · right
          refine ⟨h, ?_⟩
          have := (decode_high _ pos hp (by rw [hget]; omega)).1
          omega
      have hw : b < 128 → (Utf8.decode ⟨l.toArray⟩ pos).2 = 1 := fun h => by rw [decode_ascii _ pos hp (by rw [hget]; omega)]
      have hnx0 := hnx
      clear hnx hc
      by_cases hA : c < 65
      · by_cases h0 : (pos : Int) = 0
        · have hnx := hnx0
          go_wp2
          go_ret
          exact ⟨by rw [named_not hpl (by rw [may_b hb]; unfold capN digN; simp; omega)]; rfl, _, rfl⟩
        · by_cases hD : c < 48
          · have hnx := hnx0
            go_wp2
            go_ret
            exact ⟨by rw [named_not hpl (by rw [may_b hb]; unfold capN digN; simp; omega)]; rfl, _, rfl⟩
          · by_cases hE : c > 57
            · have hnx := hnx0
              go_wp2
              go_ret
              exact ⟨by rw [named_not hpl (by rw [may_b hb]; unfold capN digN; simp; omega)]; rfl, _, rfl⟩
            · have hnx := hnx0
              have h00 : ((pos : Int) == 0) = false := by simp; omega
              go_wp2
              go_roundw
              case rel => exact ⟨pos + 1, by rw [hw (by omega)], fun j hj => by
                rcases Nat.lt_or_ge j pos with h | h
                · exact hok j h
                · obtain rfl : j = pos := by omega
                  rw [may_b hb]; unfold capN digN; simp; omega⟩
              case measure => simp [hw (by omega)]; omega
      · by_cases hB : c > 90
        · by_cases h0 : (pos : Int) = 0
          · have hnx := hnx0
            go_wp2
            go_ret
            exact ⟨by rw [named_not hpl (by rw [may_b hb]; unfold capN digN; simp; omega)]; rfl, _, rfl⟩
          · have h00 : ((pos : Int) == 0) = false := by simp; omega
            have hD : ¬ c < 48 := by omega
            have hE : c > 57 := by omega
            have hnx := hnx0
            go_wp2
            go_ret
            exact ⟨by rw [named_not hpl (by rw [may_b hb]; unfold capN digN; simp; omega)]; rfl, _, rfl⟩
        · have hnx := hnx0
          go_wp2
          go_roundw
          case rel => exact ⟨pos + 1, by rw [hw (by omega)], fun j hj => by
            rcases Nat.lt_or_ge j pos with h | h
            · exact hok j h
            · obtain rfl : j = pos := by omega
              rw [may_b hb]; unfold capN digN; simp; omega⟩
          case measure => simp [hw (by omega)]; omega
    · have hnx : ∀ ty, (Instr.next (.pointer (some ⟨w.heap.size, 0, none⟩)) true ty).run Tryz.prog (w.iter ⟨l.toArray⟩ pos) = _ := fun ty => run_next_end w ⟨l.toArray⟩ pos ty hp
      have hpl : l.length ≤ pos := by
        have h := hp
        rw [show (⟨l.toArray⟩ : ByteArray).size = l.length by simp [ByteArray.size]] at h; omega
      have hall : (List.range l.length).all (mayAt l) = true := by
        rw [List.all_eq_true]
        exact fun j hj => hok j (by have := List.mem_range.1 hj; omega)
      cases l with
      | nil =>
        go_wp2
        go_ret
        exact ⟨rfl, _, rfl⟩
      | cons c0 l0 =>
        go_wp2
        go_ret
        refine ⟨?_, _, rfl⟩
        have e : namedB (c0 :: l0) = decide ((l0.length : Int) + 1 ≤ 12) := by
          unfold namedB
          rw [hall, Bool.and_true, decide_eq_true (show c0 :: l0 ≠ [] by simp), Bool.true_and]
          exact decide_eq_decide.2 (by simp; omega)
        rw [e]; rfl
theorem iter_below (s : ByteArray) (pos : Nat) (w : World) : Below w.heap.size w (w.iter s pos) := (Below.refl _ w).alloc (Nat.le_refl _) _
theorem named_ok {inv : World → Prop} : CallT Tryz.prog 15 [.str] [.bool] inv namedF := by
  intro y r hy w fz0 vs hfz hi hd
  obtain rfl := Option.some.inj hy
  obtain rfl := K.unStr hd
  refine (walk y w).mono ?_
  rintro e w' ⟨rfl, pos, rfl⟩
  exact K.retT_plain (ts := [.bool]) (r := namedB y) [_] (iter_below _ _ _) rfl (K.denBool _)
end Go.Proofs.YtpdfjgooaaailaaGreatDoor.H
set_option maxRecDepth 100000
namespace Go.Proofs.YtpdfjgooaaailaaGreatDoor.K
open Go
abbrev TB9 := List UInt8
abbrev TV9 := Int × (Bool × TB9 × TB9) × TB9 × Bool × Int
abbrev TA9 := (List TV9) × Int × Bool × Int × Int
abbrev tR9 : Ty := .pair .bool (.pair .str .str)
abbrev tV9 : Ty := .pair (.int .i64) (.pair tR9 (.pair .str (.pair .bool (.int .i64))))
abbrev tA9 : Ty := .pair (.sl tV9) (.pair (.int .i64) (.pair .bool (.pair (.int .i64) (.int .i64))))
abbrev TN9 := Int × Int × Int × Int × (Bool × TB9 × TB9) × TB9 × Bool × (TB9 × Int × Int × Bool × Bool) × TB9 × Int × Int × Bool × Bool
abbrev TG9 := (List TN9) × List Int
abbrev tF9 : Ty := .pair .str (.pair (.int .i64) (.pair (.int .i64) (.pair .bool .bool)))
abbrev tN9 : Ty := .pair (.int .i64) (.pair (.int .i64) (.pair (.int .i64) (.pair (.int .i64) (.pair tR9 (.pair .str (.pair .bool (.pair tF9 tF9)))))))
abbrev tG9 : Ty := .pair (.sl tN9) (.sl (.int .i64))
abbrev tP9 : Ty := .pair (.int .i64) (.pair (.int .i64) (.pair (.int .i64) (.int .i64)))
noncomputable abbrev iF9 : List Shape := [.im (.sl tN9),.im (.sl (.int .i64))]
noncomputable abbrev nC9 (a : TN9) : List AV := [(.int .i64 a.1),(.int .i64 a.2.1),(.int .i64 a.2.2.1),(.int .i64 a.2.2.2.1),(.bool a.2.2.2.2.1.1),(.str a.2.2.2.2.1.2.1),(.str a.2.2.2.2.1.2.2),(.str a.2.2.2.2.2.1),(.bool a.2.2.2.2.2.2.1),(.str a.2.2.2.2.2.2.2.1.1),(.int .i64 a.2.2.2.2.2.2.2.1.2.1),(.int .i64 a.2.2.2.2.2.2.2.1.2.2.1),(.bool a.2.2.2.2.2.2.2.1.2.2.2.1),(.bool a.2.2.2.2.2.2.2.1.2.2.2.2),(.str a.2.2.2.2.2.2.2.2.1),(.int .i64 a.2.2.2.2.2.2.2.2.2.1),(.int .i64 a.2.2.2.2.2.2.2.2.2.2.1),(.bool a.2.2.2.2.2.2.2.2.2.2.2.1),(.bool a.2.2.2.2.2.2.2.2.2.2.2.2)]
abbrev kp9_15 : List Shape := [.keep,.keep,.keep,.keep,.keep,.keep,.keep,.keep,.keep,.keep,.keep,.keep,.keep,.keep,.keep]
def look {α : Type} : List (Nat × α) → Nat → Option α
  | [],_ => none
  | (u,v) :: l,t => match Nat.beq u t with
    | true => some v
    | false => look l t
def peq : Path → Path → Bool
  | [],[] => true
  | a :: p,b :: q => Nat.beq a b && peq p q
  | _,_ => false
def lookP : List (Nat × Path × Ann) → Nat → Path → Option Ann
  | [],_,_ => none
  | (g,u,v) :: l,f,t => match Nat.beq g f && peq u t with
    | true => some v
    | false => lookP l f t
def Inv (w : World) : Prop := MaxLen w
theorem inv_max : ∀ w,Inv w → MaxLen w := fun _ h => h
theorem inv_keeps : ∀ w w',Inv w → RowKit.Below w.heap.size w w' → Inv w' := maxLen_keeps
noncomputable def ti3 : TI := { sh := (.int .i64),size := 1,bytes := 8,zero := [(.int .i64 0)],ty := some (.int .i64),fl := [],eq := false }
noncomputable def ti4 : TI := { sh := .bool,size := 1,bytes := 1,zero := [(.bool false)],ty := some .bool,fl := [],eq := false }
noncomputable def ti5 : TI := { sh := (.int .u8),size := 1,bytes := 1,zero := [(.int .u8 0)],ty := some (.int .u8),fl := [],eq := false }
noncomputable def ti9 : TI := { sh := .str,size := 1,bytes := 16,zero := [(.str [])],ty := some .str,fl := [],eq := false }
noncomputable def ti22 : TI := { sh := (.sl 9),size := 1,bytes := 24,zero := [.nilsl],ty := some (.sl .str),fl := [],eq := false }
noncomputable def ti28 : TI := { sh := (.st [(0,4),(1,9),(2,9)]),size := 3,bytes := 40,zero := [(.bool false),(.str []),(.str [])],ty := some tR9,fl := [(0,1,false),(1,1,false),(2,1,false)],eq := false }
noncomputable def ti30 : TI := { sh := (.st [(0,3),(1,28),(4,9),(5,4),(6,3)]),size := 7,bytes := 80,zero := [(.int .i64 0),(.bool false),(.str []),(.str []),(.str []),(.bool false),(.int .i64 0)],ty := some tV9,fl := [(0,1,false),(1,3,true),(4,1,false),(5,1,false),(6,1,false)],eq := false }
noncomputable def ti48 : TI := { sh := (.arr 15 9),size := 15,bytes := 240,zero := [(.str []),(.str []),(.str []),(.str []),(.str []),(.str []),(.str []),(.str []),(.str []),(.str []),(.str []),(.str []),(.str []),(.str []),(.str [])],ty := none,fl := [],eq := false }
noncomputable def ti52 : TI := { sh := (.sl 62),size := 1,bytes := 24,zero := [.nilsl],ty := some (.sl tN9),fl := [],eq := false }
noncomputable def ti53 : TI := { sh := (.sl 3),size := 1,bytes := 24,zero := [.nilsl],ty := some (.sl (.int .i64)),fl := [],eq := false }
noncomputable def ti55 : TI := { sh := (.st [(0,52),(1,53)]),size := 2,bytes := 48,zero := [.nilsl,.nilsl],ty := some tG9,fl := [(0,1,false),(1,1,false)],eq := false }
noncomputable def ti56 : TI := { sh := (.int .i64),size := 1,bytes := 8,zero := [(.int .i64 0)],ty := some (.int .i64),fl := [],eq := false }
noncomputable def ti60 : TI := { sh := (.st [(0,9),(1,3),(2,3),(3,4),(4,4)]),size := 5,bytes := 40,zero := [(.str []),(.int .i64 0),(.int .i64 0),(.bool false),(.bool false)],ty := some tF9,fl := [(0,1,false),(1,1,false),(2,1,false),(3,1,false),(4,1,false)],eq := false }
noncomputable def ti62 : TI := { sh := (.st [(0,3),(1,3),(2,3),(3,3),(4,28),(7,9),(8,4),(9,60),(14,60)]),size := 19,bytes := 176,zero := [(.int .i64 0),(.int .i64 0),(.int .i64 0),(.int .i64 0),(.bool false),(.str []),(.str []),(.str []),(.bool false),(.str []),(.int .i64 0),(.int .i64 0),(.bool false),(.bool false),(.str []),(.int .i64 0),(.int .i64 0),(.bool false),(.bool false)],ty := some tN9,fl := [(0,1,false),(1,1,false),(2,1,false),(3,1,false),(4,3,true),(7,1,false),(8,1,false),(9,5,true),(14,5,true)],eq := false }
noncomputable def ti67 : TI := { sh := (.st [(0,4),(1,9)]),size := 2,bytes := 24,zero := [(.bool false),(.str [])],ty := some (.pair .bool .str),fl := [(0,1,false),(1,1,false)],eq := false }
noncomputable def ti71 : TI := { sh := (.sl 5),size := 1,bytes := 24,zero := [.nilsl],ty := some (.sl (.int .u8)),fl := [],eq := false }
noncomputable def ti77 : TI := { sh := (.sl 85),size := 1,bytes := 24,zero := [.nilsl],ty := some (.sl (.pair (.int .i64) (.pair .str (.pair (.int .i64) tR9)))),fl := [],eq := false }
noncomputable def ti80 : TI := { sh := (.ptr 82),size := 1,bytes := 8,zero := [(.cst (.pointer none))],ty := none,fl := [],eq := false }
noncomputable def ti82 : TI := { sh := (.st [(0,77),(1,55),(3,3),(4,3),(5,56)]),size := 6,bytes := 96,zero := [.nilsl,.nilsl,.nilsl,(.int .i64 0),(.int .i64 0),(.int .i64 0)],ty := some (.pair (.sl (.pair (.int .i64) (.pair .str (.pair (.int .i64) tR9)))) (.pair tG9 (.pair (.int .i64) (.pair (.int .i64) (.int .i64))))),fl := [(0,1,false),(1,2,true),(3,1,false),(4,1,false),(5,1,false)],eq := false }
noncomputable def ti85 : TI := { sh := (.st [(0,3),(1,9),(2,3),(3,28)]),size := 6,bytes := 72,zero := [(.int .i64 0),(.str []),(.int .i64 0),(.bool false),(.str []),(.str [])],ty := some (.pair (.int .i64) (.pair .str (.pair (.int .i64) tR9))),fl := [(0,1,false),(1,1,false),(2,1,false),(3,3,true)],eq := false }
noncomputable def ti91 : TI := { sh := (.int .u64),size := 1,bytes := 8,zero := [(.int .u64 0)],ty := some (.int .u64),fl := [],eq := false }
noncomputable def ti92 : TI := { sh := (.arr 8 9),size := 8,bytes := 128,zero := [(.str []),(.str []),(.str []),(.str []),(.str []),(.str []),(.str []),(.str [])],ty := none,fl := [],eq := false }
noncomputable def ti139 : TI := { sh := (.ptr 141),size := 1,bytes := 8,zero := [(.cst (.pointer none))],ty := none,fl := [],eq := false }
noncomputable def ti141 : TI := { sh := (.st [(0,139),(1,71)]),size := 2,bytes := 32,zero := [(.cst (.pointer none)),.nilsl],ty := none,fl := [(0,1,false),(1,1,false)],eq := false }
noncomputable def ti177 : TI := { sh := (.ptr 5),size := 1,bytes := 8,zero := [(.cst (.pointer none))],ty := none,fl := [],eq := false }
noncomputable def ti227 : TI := { sh := (.st [(0,3),(1,3),(2,3),(3,3)]),size := 4,bytes := 32,zero := [(.int .i64 0),(.int .i64 0),(.int .i64 0),(.int .i64 0)],ty := some tP9,fl := [(0,1,false),(1,1,false),(2,1,false),(3,1,false)],eq := false }
noncomputable def tis : List (Nat × TI) := [(3,ti3),(4,ti4),(5,ti5),(9,ti9),(22,ti22),(28,ti28),(30,ti30),(48,ti48),(52,ti52),(53,ti53),(55,ti55),(56,ti56),(60,ti60),(62,ti62),(67,ti67),(71,ti71),(77,ti77),(80,ti80),(82,ti82),(85,ti85),(91,ti91),(92,ti92),(139,ti139),(141,ti141),(177,ti177),(227,ti227)]
noncomputable def fns : List (Nat × Func) := [(5,Tryz.f5),(13,Tryz.f13),(14,Tryz.f14),(15,Tryz.f15),(16,Tryz.f16),(17,Tryz.f17),(22,Tryz.f22),(27,Tryz.f27),(28,Tryz.f28),(29,Tryz.f29),(30,Tryz.f30),(34,Tryz.f34),(37,Tryz.f37),(51,Tryz.f51),(65,Tryz.f65),(80,Tryz.f80),(87,Tryz.f87),(89,Tryz.f89),(108,Tryz.f108),(110,Tryz.f110),(113,Tryz.f113),(121,Tryz.f121),(126,Tryz.f126),(128,Tryz.f128),(134,Tryz.f134),(135,Tryz.f135),(136,Tryz.f136),(137,Tryz.f137),(138,Tryz.f138),(139,Tryz.f139),(153,Tryz.f153),(157,Tryz.f157),(162,Tryz.f162),(163,Tryz.f163),(164,Tryz.f164),(166,Tryz.f166),(171,Tryz.f171),(174,Tryz.f174),(175,Tryz.f175),(176,Tryz.f176),(179,Tryz.f179),(183,Tryz.f183),(213,Tryz.f213),(228,Tryz.f228),(232,Tryz.f232),(238,Tryz.f238),(239,Tryz.f239),(240,Tryz.f240),(241,Tryz.f241),(243,Tryz.f243),(244,Tryz.f244),(245,Tryz.f245),(246,Tryz.f246),(247,Tryz.f247),(248,Tryz.f248),(249,Tryz.f249),(250,Tryz.f250),(251,Tryz.f251),(26,Tryz.f26),(52,Tryz.f52),(53,Tryz.f53),(61,Tryz.f61),(88,Tryz.f88),(90,Tryz.f90),(91,Tryz.f91),(123,Tryz.f123),(125,Tryz.f125),(132,Tryz.f132),(133,Tryz.f133),(140,Tryz.f140),(141,Tryz.f141),(142,Tryz.f142),(143,Tryz.f143),(172,Tryz.f172),(180,Tryz.f180),(181,Tryz.f181),(182,Tryz.f182),(214,Tryz.f214),(229,Tryz.f229),(231,Tryz.f231),(233,Tryz.f233),(236,Tryz.f236),(237,Tryz.f237),(242,Tryz.f242)]
def fidL : List (Nat × Nat) := []
def altL : List (Nat × List (Nat × Nat)) := []
def inls : List Nat := [26,52,53,61,88,90,91,123,125,132,133,140,141,142,143,172,180,181,182,214,229,231,233,236,237,242]
def rdL : List (Nat × List Bool) := [(89,[true,false])]
def ioL : List Nat := []
noncomputable def ptsL : List (Nat × List Ty) := [(5,[(.int .i64),.str]),(13,[(.int .i64)]),(14,[(.int .i64)]),(15,[.str]),(16,[.str]),(17,[]),(22,[(.int .i64)]),(27,[]),(28,[.str]),(29,[(.int .u8)]),(30,[.str]),(34,[(.int .i64)]),(37,[.str]),(51,[.str]),(65,[.str]),(80,[.str,.str]),(87,[.str,(.int .i64)]),(89,[(.one (.sl (.pair (.int .i64) (.pair .str (.pair (.int .i64) tR9))))),(.int .i64)]),(108,[.str,.str]),(110,[.bool,.str]),(113,[.str,.str]),(121,[.str,.str]),(126,[.str,.str]),(128,[.str]),(134,[(.int .u8)]),(135,[.str,(.int .i64)]),(136,[.str,(.int .i64)]),(137,[.str,(.int .i64)]),(138,[(.int .u8)]),(139,[.str]),(153,[.str]),(157,[(.pair .bool .str),(.pair .bool .str)]),(162,[.str,(.int .i64)]),(163,[(.int .u64)]),(164,[.str,.str]),(166,[(.int .u64),(.int .i64)]),(171,[.str,.str]),(174,[.str,.str]),(175,[.str]),(176,[.str]),(179,[.str,.str]),(183,[tN9]),(213,[.str]),(228,[.str]),(232,[.str]),(238,[(.int .u8)]),(239,[(.int .u8)]),(240,[.str]),(241,[.str]),(243,[tP9]),(244,[.str]),(245,[(.int .i64),(.int .i64)]),(246,[tP9]),(247,[.str]),(248,[(.int .i64),(.int .i64)]),(249,[.str]),(250,[.str]),(251,[.str])]
noncomputable def rtsL : List (Nat × List Ty) := [(5,[.bool]),(13,[.str]),(14,[.str]),(15,[.bool]),(16,[.bool]),(17,[.bool]),(22,[tV9]),(27,[(.sl .str)]),(28,[(.int .i64)]),(29,[.bool]),(30,[tG9,(.int .i64),(.int .i64)]),(34,[.str]),(37,[tV9]),(51,[(.sl (.pair (.int .i64) (.pair .str (.pair (.int .i64) tR9)))),(.int .i64),(.int .i64)]),(65,[.bool]),(80,[.str,.str,.bool]),(87,[(.pair (.int .i64) (.pair .str (.pair (.int .i64) tR9))),(.int .i64),(.int .i64)]),(89,[.bool]),(108,[.str,.str,(.int .i64)]),(110,[(.pair .bool .str)]),(113,[.str]),(121,[.bool]),(126,[.str,.bool]),(128,[tR9,(.int .i64)]),(134,[.bool]),(135,[(.pair (.int .i64) (.pair .str (.pair (.int .i64) tR9))),(.int .i64),(.int .i64)]),(136,[(.pair (.int .i64) (.pair .str (.pair (.int .i64) tR9))),(.int .i64),(.int .i64)]),(137,[(.pair (.int .i64) (.pair .str (.pair (.int .i64) tR9))),(.int .i64),(.int .i64)]),(138,[.bool]),(139,[(.int .i64),(.int .i64)]),(153,[.str]),(157,[tR9,(.int .i64)]),(162,[.str,(.int .i64)]),(163,[.str]),(164,[.str]),(166,[.str]),(171,[.bool]),(174,[.str,.bool]),(175,[.str,(.int .i64)]),(176,[.bool]),(179,[.str]),(183,[(.int .i64)]),(213,[.bool]),(228,[(.int .i64),.bool]),(232,[.bool]),(238,[.bool]),(239,[.bool]),(240,[.str]),(241,[.bool]),(243,[tP9,(.int .i64)]),(244,[tF9,(.int .i64)]),(245,[.bool]),(246,[(.int .i64)]),(247,[(.int .i64),(.int .i64),(.int .i64)]),(248,[.bool]),(249,[.str,.str]),(250,[(.int .i64),.bool]),(251,[(.int .i64),.bool])]
noncomputable def annL : List (Nat × List (Nat × Path × Ann)) := [
  (13,[(13,[1000000,0,1],{ live := [(0,.keep)],toks := [] }),
    (13,[1,0,1,1],{ live := [(0,.keep),(3,.keep),(10,.keep)],toks := [(48,kp9_15)] })]),
  (14,[(14,[1,0,1],{ live := [(0,.keep),(8,.keep)],toks := [] })]),
  (16,[(16,[1,0,1],{ live := [(0,.keep),(16,.keep)],toks := [] }),
    (16,[0,1,0,1,1],{ live := [(0,.keep),(3,.keep)],toks := [] }),
    (16,[1,0,0,1,0,0,1,0,1,1],{ live := [(0,.keep),(3,.keep),(39,.keep)],toks := [] })]),
  (28,[(28,[0,0,1,1],{ live := [(0,.keep),(3,.keep)],toks := [] }),
    (28,[1,0,0,0,0,1,1],{ live := [(0,.keep),(3,.keep),(19,.keep)],toks := [] })])]
noncomputable def closedAnn : List (Nat × Path × Ann) := [(16,[0,1,0,1,1],{ live := [],toks := [],all := true }),(28,[0,0,1,1],{ live := [],toks := [],all := true }),(51,[0,1,1,1,1],{ live := [],toks := [],all := true }),(87,[2,1],{ live := [],toks := [],all := true }),(88,[0,1,0,1,1,1,1],{ live := [],toks := [],all := true }),(132,[0,0,1,1],{ live := [],toks := [],all := true }),(136,[2,1],{ live := [],toks := [],all := true }),(137,[0,1,0,1,1],{ live := [],toks := [],all := true }),(142,[0,1,0,1,1],{ live := [],toks := [],all := true }),(181,[0,0,1,1],{ live := [],toks := [],all := true }),(176,[0,1,0,1],{ live := [],toks := [],all := true }),(175,[0,0,1,1,1],{ live := [],toks := [],all := true }),(175,[0,1,0,1,1,0,1,0,0,0,1,1,1],{ live := [],toks := [],all := true }),(65,[0,1,0,1],{ live := [],toks := [],all := true }),(213,[0,1,0,1],{ live := [],toks := [],all := true }),(228,[0,1,0,1],{ live := [],toks := [],all := true }),(232,[0,1,0,1,1],{ live := [],toks := [],all := true }),(240,[0,1,0,1,1],{ live := [],toks := [],all := true }),(241,[0,0,1,1],{ live := [],toks := [],all := true }),(241,[0,1,0,1,1,1],{ live := [],toks := [],all := true }),(237,[0,0,1,1],{ live := [],toks := [],all := true }),(244,[0,0,1,1,1,1,1],{ live := [],toks := [],all := true }),(249,[0,0,1,1],{ live := [],toks := [],all := true }),(250,[0,1,0,1,1,1],{ live := [],toks := [],all := true }),(251,[0,1,0,1,1,1],{ live := [],toks := [],all := true })]
def hasF (n : Nat) : List AV → Bool
  | [] => false
  | .func f _ _ :: l => Nat.beq f n || hasF n l
  | _ :: l => hasF n l
def altOf : List (Nat × Nat) → List AV → Disp
  | [],_ => .no
  | (n,i) :: l,vs => match vs with
    | .agg cs :: _ => (match hasF n cs with
      | true => .spec i
      | false => altOf l vs)
    | _ => .no
noncomputable def extL : List ((j : Nat) × (den (tyL ((look ptsL j).getD [])) → Option (den (tyL ((look rtsL j).getD []))))) := [⟨15,H.namedF⟩,⟨80,cutF⟩,⟨108,Q.divQ⟩,⟨113,Q.addQ⟩,⟨153,Q.trimQ⟩,⟨162,Q.powQ⟩,⟨163,Q.ofQ⟩,⟨164,Q.mulQ⟩,⟨179,Q.gcdQ⟩]
noncomputable def CT : Ctx where
  ti := look tis
  fn := look fns
  disp := fun _ f vs => match inls.elem f with
    | true => .inl
    | false => match look altL f with
      | some l => altOf l vs
      | none => .spec f
  fid := fun i => match look fidL i with
    | some f => f
    | none => i
  pts := fun i => (look ptsL i).getD []
  rts := fun i => (look rtsL i).getD []
  ext := lookE extL
  ann := fun i f p => match look annL i with
    | some l => match lookP l f p with
      | some a => some a
      | none => lookP closedAnn f p
    | none => lookP closedAnn f p
  inv := Inv
  io := fun i => ioL.elem i
  rd := fun i => (look rdL i).getD []
noncomputable section
abbrev w14_ParseSigns (x0 : Int) (x1 : TB9) : Option (Bool) := (top CT).callF 5 (x0,x1)
abbrev parse_Sign (x0 : Int) : Option (TB9) := (top CT).callF 13 (x0)
abbrev parse_Sign_1 (a1 : Int) : Option (TB9) := (top CT).stage 13 [{ f := 13,path := [0,1],op := 0,rest := [1,2],env := [(0,(.int .i64 a1))],salt := 0 }] 26 [] { env := [],heap := [],salt := 5 }
abbrev parse_Sign_2 (a1 : Int) (a2 : Bool) (a3 a4 a5 a6 a7 a8 a9 a10 a11 a12 a13 a14 a15 a16 a17 : TB9) : Option (TB9) := (top CT).stage 13 [] 13 [1,0,1,1] { env := [(0,(.int .i64 a1)),(3,(.ptr 48 0)),(10,(.bool a2))],heap := [(48,.box [(.str a3),(.str a4),(.str a5),(.str a6),(.str a7),(.str a8),(.str a9),(.str a10),(.str a11),(.str a12),(.str a13),(.str a14),(.str a15),(.str a16),(.str a17)])],salt := 0 }
abbrev r14_Sign (x0 : Int) : Option (TB9) := (top CT).callF 14 (x0)
abbrev r14_Sign_1 (a1 : Int) (a2 : Bool) : Option (TB9) := (top CT).stage 14 [] 14 [1,0,1] { env := [(0,(.int .i64 a1)),(8,(.bool a2))],heap := [],salt := 0 }
abbrev parse_Named (x0 : TB9) : Option (Bool) := (top CT).callF 15 (x0)
abbrev r13_Named (x0 : TB9) : Option (Bool) := (top CT).callF 16 (x0)
abbrev r13_Named_1 (a1 : TB9) (a2 : Bool) : Option (Bool) := (top CT).stage 16 [] 16 [1,0,1] { env := [(0,(.str a1)),(16,(.bool a2))],heap := [],salt := 0 }
abbrev r13_Named_2 (a1 : TB9) (a2 : Int) : Option (Bool) := (top CT).stage 16 [] 16 [0,1,0,1,1] { env := [(0,(.str a1)),(3,(.int .i64 a2))],heap := [],salt := 0 }
abbrev r13_Named_3 (a1 : TB9) (a2 : Int) (a3 : Bool) : Option (Bool) := (top CT).stage 16 [] 16 [1,0,0,1,0,0,1,0,1,1] { env := [(0,(.str a1)),(3,(.int .i64 a2)),(39,(.bool a3))],heap := [],salt := 0 }
abbrev w14_known : Option (Bool) := (top CT).callF 17 ()
abbrev r14_Signs : Option (List (TB9)) := (top CT).callF 27 ()
abbrev r10_Letters (x0 : TB9) : Option (Int) := (top CT).callF 28 (x0)
abbrev r10_Letters_1 (a1 : TB9) (a2 : Int) : Option (Int) := (top CT).stage 28 [] 28 [0,0,1,1] { env := [(0,(.str a1)),(3,(.int .i64 a2))],heap := [],salt := 0 }
abbrev r10_Letters_2 (a1 : TB9) (a2 : Int) (a3 : Bool) : Option (Int) := (top CT).stage 28 [] 28 [1,0,0,0,0,1,1] { env := [(0,(.str a1)),(3,(.int .i64 a2)),(19,(.bool a3))],heap := [],salt := 0 }
abbrev r11_Digit (x0 : Int) : Option (Bool) := (top CT).callF 29 (x0)
abbrev strings_Cut (x0 x1 : TB9) : Option (TB9 × TB9 × Bool) := (top CT).callF 80 (x0,x1)
abbrev divide_DivMod (x0 x1 : TB9) : Option (TB9 × TB9 × Int) := (top CT).callF 108 (x0,x1)
abbrev nat_Add (x0 x1 : TB9) : Option (TB9) := (top CT).callF 113 (x0,x1)
abbrev nat_Trim (x0 : TB9) : Option (TB9) := (top CT).callF 153 (x0)
abbrev divide_Pow (x0 : TB9) (x1 : Int) : Option (TB9 × Int) := (top CT).callF 162 (x0,x1)
abbrev nat_Of (x0 : Int) : Option (TB9) := (top CT).callF 163 (x0)
abbrev nat_Mul (x0 x1 : TB9) : Option (TB9) := (top CT).callF 164 (x0,x1)
abbrev divide_Gcd (x0 x1 : TB9) : Option (TB9) := (top CT).callF 179 (x0,x1)
end
end Go.Proofs.YtpdfjgooaaailaaGreatDoor.K
