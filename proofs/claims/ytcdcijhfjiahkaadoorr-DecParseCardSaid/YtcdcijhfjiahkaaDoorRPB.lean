/- The reference's naturals (abacistref01): what each function answers. -/
import Derived.Test.YtcdcijhfjiahkaaDoorRPA
set_option linter.unusedVariables false
set_option linter.unusedSimpArgs false
namespace Go.Proofs.YtcdcijhfjiahkaaDoorR.P
open Go Go.Proofs.YtcdcijhfjiahkaaDoorR.K Go.Proofs.YtcdcijhfjiahkaaDoorR.C
def sgnv (a b : Nat) : Int := if a < b then -1 else if a = b then 0 else 1
theorem refTrim1 : ∀ (n : Nat) (s : List UInt8), s.length = n → n ≤ 9223372036854775807 → abacistref01_Trim_1 s = some (Lib.trimLeftB s 0)
  | 0, s, h, _ => by
    obtain rfl : s = [] := List.eq_nil_of_length_eq_zero h
    rw [abacistref01_Trim_1_eq, cF (decide_eq_false (by simp)), abacistref01_Trim_2_eq]; rfl
  | n + 1, s, h, hn => by
    cases s with
    | nil => simp at h
    | cons b s =>
      have hs : s.length = n := by simpa using h
      have e : ((b :: s).drop 1) = s := rfl
      rw [abacistref01_Trim_1_eq, cT (decide_eq_true (by simp)), cT (by simp), abacistref01_Trim_2_eq, List.getD_cons_zero]
      unfold Lib.trimLeftB
      rw [List.dropWhile_cons]
      by_cases h0 : b = 0
      · subst h0
        rw [cT (by rfl), cT (by simp; omega), e, refTrim1 n s hs (by omega)]; rfl
      · have hb : b.toNat ≠ 0 := fun e => h0 (UInt8.toNat_inj.1 e)
        rw [cF (decide_eq_false (by omega))]
        simp [h0]
theorem refTrim (s : List UInt8) (h : s.length ≤ 9223372036854775807) : abacistref01_Trim s = some (nat (val s)) := by rw [abacistref01_Trim_eq, refTrim1 _ s rfl h, trimB]
theorem refByte (n : Nat) : abacistref01_Byte (n : Int) = some [UInt8.ofNat (n % 256)] := by
  rw [abacistref01_Byte_eq, mod_u8]
  simp only [bytesOf, List.map_cons, List.map_nil]
  rw [show ((n : Int) % 256).toNat = n % 256 by omega]
theorem val_one (n : Nat) : val [UInt8.ofNat (n % 256)] = n % 256 := by
  rw [val_cons, val_nil, UInt8.toNat_ofNat_of_lt' (by show _ < 256; omega)]; simp
theorem refOf1 (v : Nat) (hv : v < 256 ^ 8) : ∀ (m i : Nat), i + m = 8 → ∀ s : List UInt8, s.length = i → val s = v % 256 ^ i → abacistref01_Of_1 ((v / 256 ^ i : Nat) : Int) s (i : Int) = some (nat v)
  | 0, i, h, s, hs, hsv => by
    obtain rfl : i = 8 := by omega
    rw [abacistref01_Of_1_eq, cF (decide_eq_false (by decide)), refTrim _ (by omega), hsv, Nat.mod_eq_of_lt hv]; rfl
  | m + 1, i, h, s, hs, hsv => by
    have h1 : v / 256 ^ i < 18446744073709551616 := Nat.lt_of_le_of_lt (Nat.div_le_self _ _) (by omega)
    have h2 : IntKind.i64.wrap (bitop .and .u64 ((v / 256 ^ i : Nat) : Int) 255) = ((v / 256 ^ i % 256 : Nat) : Int) := by
      generalize v / 256 ^ i = q at h1
      rw [and_u64 _ (by omega) (by omega), wrap64 (by omega) (by omega)]; omega
    have h3 : ((v / 256 ^ i : Nat) : Int).fdiv (2 ^ min 8 IntKind.u64.bits) = ((v / 256 ^ (i + 1) : Nat) : Int) := by
      rw [show (2 : Int) ^ min 8 IntKind.u64.bits = 256 from rfl, fd (by omega), Nat.pow_succ, ← Nat.div_div_eq_div_mul]; omega
    rw [abacistref01_Of_1_eq, cT (decide_eq_true (by omega)), h2, refByte, Option.bind_some, cT (Nat.ble_eq_true_of_le (by simp; omega)), cT (decide_eq_true (by decide)), h3, wS (by omega)]
    refine refOf1 v hv m (i + 1) (by omega) _ (by simp; omega) ?_
    rw [val_append, Nat.mod_mod, val_one, hs, hsv, Nat.pow_succ, Nat.mod_mul, Nat.mul_comm (256 ^ i)]
    omega
theorem refOf (v : Nat) (h : v < 18446744073709551616) : abacistref01_Of (v : Int) = some (nat v) := by
  have := refOf1 v (by simpa using h) 8 0 rfl [] rfl (by simp [val_nil, Nat.mod_one])
  simp only [Nat.pow_zero, Nat.div_one] at this
  exact (abacistref01_Of_eq _).trans this
theorem refSmall1 (s : List UInt8) (h : s.length ≤ 8) : ∀ (m i : Nat), i + m = s.length → abacistref01_Small_1 s ((val (s.take i) : Nat) : Int) (i : Int) = some (((val s : Nat) : Int), true)
  | 0, i, hi => by
    obtain rfl : i = s.length := by omega
    rw [abacistref01_Small_1_eq, cF (decide_eq_false (by omega)), List.take_length]
  | m + 1, i, hi => by
    have hl : i < s.length := by omega
    have hv := val_lt (s.take i)
    have hp : 256 ^ (s.take i).length ≤ 256 ^ 7 := Nat.pow_le_pow_right (by decide) (by simp; omega)
    have hb := (s[i]).toNat_lt
    have hg : ((s.getD (i : Int).toNat 0).toNat : Int) = ((s[i]).toNat : Int) := by rw [getN s i 0 hl]
    have e : bitop .or .u64 (IntKind.u64.wrap (((val (s.take i) : Nat) : Int) * 2 ^ min 8 IntKind.u64.bits)) (IntKind.u64.wrap ((s[i]).toNat : Int)) = ((val (s.take (i + 1)) : Nat) : Int) := by
      rw [show (2 : Int) ^ min 8 IntKind.u64.bits = 256 from rfl, wrapU64 (by omega) (by omega), wrapU64 (by omega) (by omega), or_u64 _ _ 8 (by omega) (by omega) (by omega) (by omega) (by omega) (by omega)]
      rw [List.take_add_one, List.getElem?_eq_getElem hl]
      simp only [Option.toList_some, val_snoc]
      omega
    rw [abacistref01_Small_1_eq, cT (decide_eq_true (by omega)), cT (decide_eq_true (by decide)), cT (ix hl), hg, e, wS (by omega)]
    exact refSmall1 s h m (i + 1) (by omega)
theorem refSmall (s : List UInt8) (h : s.length ≤ 9223372036854775807) : abacistref01_Small s = some (small (val s)) := by
  rw [abacistref01_Small_eq, refTrim s h, Option.bind_some]
  by_cases h8 : (nat (val s)).length > 8
  · have : ¬ val s < 18446744073709551616 := fun hh => by
      have := nat_length_le (n := val s) (k := 8) (by simpa using hh)
      omega
    rw [cT (decide_eq_true (by omega)), small, if_neg this]
  · have h1 := val_lt (nat (val s))
    rw [val_nat] at h1
    have h2 : 256 ^ (nat (val s)).length ≤ 256 ^ 8 := Nat.pow_le_pow_right (by decide) (by omega)
    have := refSmall1 (nat (val s)) (by omega) _ 0 (Nat.zero_add _)
    rw [List.take_zero, val_nil, val_nat] at this
    rw [cF (decide_eq_false (by omega)), small, if_pos (by omega)]
    exact this
theorem cmp_vals (a b : Nat) : (if (nat a).length < (nat b).length then true else if (nat a).length = (nat b).length then Op.bytesLess (nat a) (nat b) else false) = decide (a < b) := by
  by_cases h : (nat a).length < (nat b).length
  · rw [if_pos h, decide_eq_true (nat_len_lt h)]
  · rw [if_neg h]
    by_cases h2 : (nat a).length = (nat b).length
    · rw [if_pos h2, bytesLess_val _ _ h2]
      show decide (val (nat a) < val (nat b)) = _
      rw [val_nat, val_nat]
    · rw [if_neg h2, decide_eq_false]
      have := nat_len_lt (a := b) (b := a) (by omega)
      omega
theorem refCmp (a b : List UInt8) (ha : a.length ≤ 9223372036854775807) (hb : b.length ≤ 9223372036854775807) : abacistref01_Cmp a b = some (sgnv (val a) (val b)) := by
  have h := cmp_vals (val a) (val b)
  have one : ∀ c : Bool, c = decide (val a < val b) → abacistref01_Cmp_1 (nat (val a)) (nat (val b)) c = some (sgnv (val a) (val b)) := by
    intro c hc
    rw [abacistref01_Cmp_1_eq, hc, sgnv]
    by_cases h1 : val a < val b
    · rw [decide_eq_true h1, if_pos h1]; rfl
    · rw [decide_eq_false h1, if_neg h1, cond_false]
      by_cases h2 : val a = val b
      · rw [decide_eq_true (by rw [h2]), if_pos h2]; rfl
      · rw [decide_eq_false (fun e => h2 (nat_inj.1 e)), if_neg h2]; rfl
  rw [abacistref01_Cmp_eq, refTrim a ha, refTrim b hb, Option.bind_some, Option.bind_some]
  by_cases h1 : (nat (val a)).length < (nat (val b)).length
  · rw [if_pos h1] at h
    rw [cT (decide_eq_true (by omega))]; exact one _ h
  · rw [if_neg h1] at h
    rw [cF (decide_eq_false (by omega))]
    by_cases h2 : (nat (val a)).length = (nat (val b)).length
    · rw [if_pos h2] at h
      rw [cT (decide_eq_true (by omega))]; exact one _ h
    · rw [if_neg h2] at h
      rw [cF (decide_eq_false (by omega))]; exact one _ h
theorem refAt (a : List UInt8) (ha : a.length ≤ 9223372036854775807) (i : Nat) : abacistref01_at a (i : Int) = some ((R a).getD i 0) := by
  rw [abacistref01_at_eq]
  by_cases h : i < a.length
  · have hw : IntKind.i64.wrap (IntKind.i64.wrap ((a.length : Int) - 1) - (i : Int)) = ((a.length - 1 - i : Nat) : Int) := by
      rw [wrap64 (n := (a.length : Int) - 1) (by omega) (by omega), wrap64 (by omega) (by omega)]; omega
    have hb : (a.getD (a.length - 1 - i) 0).toNat < 256 := UInt8.toNat_lt _
    rw [cF (decide_eq_false (by omega)), hw, cT (ix (by omega)), Int.toNat_natCast, wrap64 (by omega) (by omega), R_getD a i h]
  · rw [cT (decide_eq_true (by omega)), List.getD_eq_getElem?_getD, List.getElem?_eq_none (by rw [R_length]; omega)]; rfl
theorem L_bytes (l : List Int) (h : Ok 256 l) : L (bytesOf l) = l.map Int.toNat := by
  unfold L bytesOf
  rw [List.map_map]
  apply List.map_congr_left
  intro x hx
  have := h x hx
  exact UInt8.toNat_ofNat_of_lt' (by show _ < 256; omega)
theorem val_bytes (l : List Int) (h : Ok 256 l) : val (bytesOf l.reverse) = W 256 l := by
  unfold val
  rw [L_bytes _ (fun x hx => h x (by simpa using hx)), W_revBytes l h]
theorem set_pad (l X : List Int) (n : Nat) (v : Int) : (List.replicate (n + 1) 0 ++ X).set n v = List.replicate n 0 ++ v :: X := by
  rw [List.replicate_succ', List.append_assoc, List.set_append_right _ _ (by simp)]
  simp
theorem refTurned1 (l : List Int) (ho : Ok 256 l) (hl : l.length ≤ 35184372088832) : ∀ (m i : Nat), i + m = l.length → abacistref01_turned_1 l (i : Int) (List.replicate m 0 ++ (l.take i).reverse) = some (nat (W 256 l))
  | 0, i, h => by
    obtain rfl : i = l.length := by omega
    have e : List.replicate 0 0 ++ (l.take l.length).reverse = l.reverse := by simp
    rw [e, abacistref01_turned_1_eq, cF (decide_eq_false (by omega)), refTrim _ (by simp [bytesOf]; omega), val_bytes l ho]; rfl
  | m + 1, i, h => by
    have hi : i < l.length := by omega
    have hw : IntKind.i64.wrap (IntKind.i64.wrap ((l.length : Int) - 1) - (i : Int)) = (m : Int) := by
      rw [wrap64 (n := (l.length : Int) - 1) (by omega) (by omega), wrap64 (by omega) (by omega)]; omega
    have hx := ho.getD (by decide) i
    have hsz : (List.replicate (m + 1) 0 ++ (l.take i).reverse).length = l.length := by simp; omega
    rw [abacistref01_turned_1_eq, cT (decide_eq_true (by omega)), cT (ix hi), hw, hsz, cT (ix (by omega)), Int.toNat_natCast, Int.toNat_natCast, wrapU8 (by omega) (by omega), wS (by omega), set_pad l]
    have := refTurned1 l ho hl m (i + 1) (by omega)
    rw [take_succ' l i hi, List.reverse_append] at this
    exact this
theorem refTurned (l : List Int) (ho : Ok 256 l) (hl : l.length ≤ 35184372088832) : abacistref01_turned l = some (nat (W 256 l)) := by
  have := refTurned1 l ho hl l.length 0 (Nat.zero_add _)
  rw [List.take_zero, List.reverse_nil, List.append_nil] at this
  rw [abacistref01_turned_eq, show (decide (0 ≤ (l.length : Int)) && (decide ((l.length : Int) ≤ (l.length : Int)) && decide (((1 : Nat) : Int) * (l.length : Int) ≤ 281474976710656))) = true by simp; omega, cond_true, Int.toNat_natCast]
  exact this
theorem p8 : (2 : Int) ^ min 8 IntKind.i64.bits = 256 := rfl
theorem refAdd1 (a b : List UInt8) (ha : a.length ≤ 1099511627776) (hb : b.length ≤ 1099511627776) : ∀ (m i c : Nat) (acc : List Int), max a.length b.length + 1 ≤ i + m → i ≤ 2199023255552 → acc.length = i → Ok 256 acc → c ≤ 1 →
    (max a.length b.length < i → c = 0) → W 256 acc + 256 ^ i * c = W 256 ((R a).take i) + W 256 ((R b).take i) → abacistref01_Add_1 a b (c : Int) (i : Int) acc = some (nat (val a + val b))
  | m, i, c, acc, hm, hi, hl, ho, hc, hc0, hw => by
    have turn : i < a.length ∨ i < b.length ∨ 0 < c → abacistref01_Add_2 a b (c : Int) (i : Int) true acc = some (nat (val a + val b)) := by
      intro ht
      match m with
      | 0 => exfalso; have := hc0 (by omega); omega
      | m + 1 =>
        have h1 := (R_ok a).getD (by decide) i
        have h2 := (R_ok b).getD (by decide) i
        have n1 : (R a).getD i 0 = (((R a).getD i 0).toNat : Int) := by omega
        have n2 : (R b).getD i 0 = (((R b).getD i 0).toNat : Int) := by omega
        have hwv : IntKind.i64.wrap (IntKind.i64.wrap ((R a).getD i 0 + (R b).getD i 0) + (c : Int)) = (R a).getD i 0 + (R b).getD i 0 + (c : Int) := by rw [wrap64 (n := (R a).getD i 0 + (R b).getD i 0) (by omega) (by omega), wrap64 (by omega) (by omega)]
        generalize hx : ((R a).getD i 0).toNat = x at n1
        generalize hy : ((R b).getD i 0).toNat = y at n2
        rw [abacistref01_Add_2_eq, cond_true, refAt a (by omega), refAt b (by omega), Option.bind_some, Option.bind_some, hwv, and_i64 _ (by omega) (by omega), cT (room _ _ _ (by simp; omega)), cT (decide_eq_true (by decide)), p8, fd (by omega), wS (by omega), n1, n2,
          show ((x : Int) + (y : Int) + (c : Int)) / 256 = (((x + y + c) / 256 : Nat) : Int) by omega, show ((x : Int) + (y : Int) + (c : Int)) % 256 = (((x + y + c) % 256 : Nat) : Int) by omega]
        refine refAdd1 a b ha hb m (i + 1) _ _ (by omega) (by omega) (by simp [hl]) (ho.snoc (by omega) (by omega)) (by omega) (fun hlt => ?_) ?_
        · -- beyond both there is no digit
          have z1 : (R a).getD i 0 = 0 := by rw [List.getD_eq_getElem?_getD, List.getElem?_eq_none (by rw [R_length]; omega)]; rfl
          have z2 : (R b).getD i 0 = 0 := by rw [List.getD_eq_getElem?_getD, List.getElem?_eq_none (by rw [R_length]; omega)]; rfl
          omega
        · have hs := add_step (256 ^ i) 256 (W 256 acc) c x y (W 256 ((R a).take i)) (W 256 ((R b).take i)) ((x + y + c) / 256) ((x + y + c) % 256) hw (by omega)
          rw [W_snoc, hl, Int.toNat_natCast, W_take, W_take, hx, hy, Nat.pow_succ]
          exact hs
    rw [abacistref01_Add_1_eq]
    by_cases h1 : i < a.length
    · rw [cT (decide_eq_true (by omega))]; exact turn (.inl h1)
    · rw [cF (decide_eq_false (by omega))]
      by_cases h2 : i < b.length
      · rw [cT (decide_eq_true (by omega))]; exact turn (.inr (.inl h2))
      · rw [cF (decide_eq_false (by omega))]
        by_cases h3 : 0 < c
        · rw [decide_eq_true (by omega)]; exact turn (.inr (.inr h3))
        · obtain rfl : c = 0 := by omega
          rw [decide_eq_false (by omega), abacistref01_Add_2_eq, cond_false, refTurned acc ho (by omega)]
          rw [W_Rall a i (by omega), W_Rall b i (by omega)] at hw
          simp only [Option.bind_some]
          rw [show W 256 acc = val a + val b by omega]
  termination_by m => m
theorem refAdd (a b : List UInt8) (ha : a.length ≤ 1099511627776) (hb : b.length ≤ 1099511627776) : abacistref01_Add a b = some (nat (val a + val b)) :=
  (abacistref01_Add_eq a b).trans (refAdd1 a b ha hb (max a.length b.length + 1) 0 0 [] (by omega) (by omega) rfl (Ok.nil _) (by omega) (fun h => rfl) (by simp [W]))
theorem refSub1 (a b : List UInt8) (ha : a.length ≤ 1099511627776) (hb : b.length ≤ 1099511627776) (hle : val b ≤ val a) : ∀ (m i c : Nat) (acc : List Int), i + m = max a.length b.length → acc.length = i → Ok 256 acc → c ≤ 1 →
    W 256 acc + W 256 ((R b).take i) = W 256 ((R a).take i) + 256 ^ i * c → abacistref01_Sub_1 a b (c : Int) (i : Int) acc = some (nat (val a - val b))
  | 0, i, c, acc, hm, hl, ho, hc, hw => by
    rw [abacistref01_Sub_1_eq, cF (decide_eq_false (by omega)), decide_eq_false (by omega), abacistref01_Sub_2_eq, cond_false, refTurned acc ho (by omega)]
    rw [W_Rall a i (by omega), W_Rall b i (by omega)] at hw
    have h1 := W_lt ho
    rw [hl] at h1
    have hc0 : c = 0 := by
      rcases Nat.lt_or_ge 0 c with h | h
      · obtain rfl : c = 1 := by omega
        omega
      · omega
    subst hc0
    simp only [Option.bind_some]
    rw [show W 256 acc = val a - val b by omega]
  | m + 1, i, c, acc, hm, hl, ho, hc, hw => by
    have h1 := (R_ok a).getD (by decide) i
    have h2 := (R_ok b).getD (by decide) i
    have n1 : (R a).getD i 0 = (((R a).getD i 0).toNat : Int) := by omega
    have n2 : (R b).getD i 0 = (((R b).getD i 0).toNat : Int) := by omega
    have hwv : IntKind.i64.wrap (IntKind.i64.wrap ((R a).getD i 0 - (R b).getD i 0) - (c : Int)) = (R a).getD i 0 - (R b).getD i 0 - (c : Int) := by rw [wrap64 (n := (R a).getD i 0 - (R b).getD i 0) (by omega) (by omega), wrap64 (by omega) (by omega)]
    generalize hx : ((R a).getD i 0).toNat = x at n1
    generalize hy : ((R b).getD i 0).toNat = y at n2
    have two : abacistref01_Sub_2 a b (c : Int) (i : Int) true acc = some (nat (val a - val b)) := by
      rw [abacistref01_Sub_2_eq, cond_true, refAt a (by omega), refAt b (by omega), Option.bind_some, Option.bind_some, hwv, n1, n2]
      by_cases hneg : (x : Int) - y - c < 0
      · have e : IntKind.i64.wrap ((x : Int) - (y : Int) - (c : Int) + 256) = ((x + 256 - y - c : Nat) : Int) := by rw [wrap64 (by omega) (by omega)]; omega
        rw [decide_eq_true hneg, cond_true, abacistref01_Sub_3_eq, cT (room _ _ _ (by simp; omega)), wS (by omega), e]
        refine refSub1 a b ha hb hle m (i + 1) 1 _ (by omega) (by simp [hl]) (ho.snoc (by omega) (by omega)) (by omega) ?_
        have hs := sub_step (256 ^ i) 256 (W 256 acc) c x y (W 256 ((R a).take i)) (W 256 ((R b).take i)) 1 (x + 256 - y - c) hw (by omega)
        rw [W_snoc, hl, Int.toNat_natCast, W_take, W_take, hx, hy, Nat.pow_succ]
        omega
      · have e : (x : Int) - (y : Int) - (c : Int) = ((x - y - c : Nat) : Int) := by omega
        rw [decide_eq_false hneg, cond_false, abacistref01_Sub_3_eq, cT (room _ _ _ (by simp; omega)), wS (by omega), e]
        refine refSub1 a b ha hb hle m (i + 1) 0 _ (by omega) (by simp [hl]) (ho.snoc (by omega) (by omega)) (by omega) ?_
        have hs := sub_step (256 ^ i) 256 (W 256 acc) c x y (W 256 ((R a).take i)) (W 256 ((R b).take i)) 0 (x - y - c) hw (by omega)
        rw [W_snoc, hl, Int.toNat_natCast, W_take, W_take, hx, hy, Nat.pow_succ]
        omega
    rw [abacistref01_Sub_1_eq]
    by_cases h1 : i < a.length
    · rw [cT (decide_eq_true (by omega))]; exact two
    · rw [cF (decide_eq_false (by omega)), decide_eq_true (by omega)]; exact two
theorem refSub (a b : List UInt8) (ha : a.length ≤ 1099511627776) (hb : b.length ≤ 1099511627776) : abacistref01_Sub a b = some (nat (val a - val b)) := by
  rw [abacistref01_Sub_eq, refCmp a b (by omega) (by omega), Option.bind_some]
  by_cases h : val a < val b
  · rw [sgnv, if_pos h, cT (decide_eq_true (by decide)), show val a - val b = 0 by omega, nat_zero]
  · have hs : ¬ sgnv (val a) (val b) < 0 := by unfold sgnv; rw [if_neg h]; split <;> omega
    rw [decide_eq_false hs, cond_false]
    exact refSub1 a b ha hb (by omega) (max a.length b.length) 0 0 [] (Nat.zero_add _) rfl (Ok.nil _) (by omega) (by simp [W])
/-- A row of a product. -/
theorem refMul2 (a b : List UInt8) (ha : a.length ≤ 1099511627776) (hb : b.length ≤ 1099511627776) (i : Nat) (hi : i < a.length) (x : Nat) (hx : x < 256) (X : Nat) : ∀ (m k c : Nat) (out : List Int), k + m = b.length → out.length = a.length + b.length → Ok 256 out → c < 256 →
    (∀ p, i + b.length ≤ p → out.getD p 0 = 0) → W 256 out + 256 ^ (i + k) * c = X + x * 256 ^ i * W 256 ((R b).take k) →
    ∃ out', abacistref01_Mul_2 a b (i : Int) (c : Int) (x : Int) (k : Int) out = abacistref01_Mul_1 a b ((i + 1 : Nat) : Int) out' ∧ out'.length = a.length + b.length ∧ Ok 256 out' ∧ (∀ p, i + 1 + b.length ≤ p → out'.getD p 0 = 0) ∧ W 256 out' = X + x * 256 ^ i * val b
  | 0, k, c, out, hm, hl, ho, hc, hz, hw => by
    refine ⟨out.set (i + b.length) (c : Int), ?_, by simp [hl], ho.set _ (by omega) (by omega), fun p hp => ?_, ?_⟩
    · rw [abacistref01_Mul_2_eq, cF (decide_eq_false (by omega)), wA (by omega), hl, cT (ix (by omega)), wS (by omega), Int.toNat_natCast]
    · rw [getD_set_ne _ _ _ _ (by omega)]; exact hz p (by omega)
    · have h1 := W_set' 256 out (i + b.length) c (by omega)
      rw [hz _ (Nat.le_refl _)] at h1
      obtain rfl : k = b.length := by omega
      rw [W_Rall b _ (Nat.le_refl _)] at hw
      simp only [Int.toNat_zero, Nat.mul_zero, Nat.add_zero] at h1
      omega
  | m + 1, k, c, out, hm, hl, ho, hc, hz, hw => by
    have h1 := ho.getD (by decide) (i + k)
    have h2 := (R_ok b).getD (by decide) k
    have n1 : out.getD (i + k) 0 = ((out.getD (i + k) 0).toNat : Int) := by omega
    have n2 : (R b).getD k 0 = (((R b).getD k 0).toNat : Int) := by omega
    generalize hy : (out.getD (i + k) 0).toNat = y at n1
    generalize hd : ((R b).getD k 0).toNat = d at n2
    have hxd : x * d ≤ 255 * 255 := Nat.mul_le_mul (by omega) (by omega)
    have hv : IntKind.i64.wrap (IntKind.i64.wrap (out.getD (i + k) 0 + IntKind.i64.wrap ((x : Int) * (R b).getD k 0)) + (c : Int)) = ((x * d + y + c : Nat) : Int) := by
      rw [n1, n2, show (x : Int) * (d : Int) = ((x * d : Nat) : Int) by simp, wrap64 (n := ((x * d : Nat) : Int)) (by omega) (by omega), wrap64 (n := (y : Int) + ((x * d : Nat) : Int)) (by omega) (by omega), wrap64 (by omega) (by omega)]
      omega
    have hlt : (x * d + y + c) / 256 < 256 := by omega
    have hstep := refMul2 a b ha hb i hi x hx X m (k + 1) ((x * d + y + c) / 256) (out.set (i + k) (((x * d + y + c) % 256 : Nat) : Int)) (by omega) (by simp [hl]) (ho.set _ (by omega) (by omega)) hlt
      (fun p hp => by rw [getD_set_ne _ _ _ _ (by omega)]; exact hz p hp) (by
        have hset := W_set' 256 out (i + k) ((x * d + y + c) % 256) (by omega)
        rw [hy] at hset
        have := mul_step 256 (256 ^ (i + k)) (W 256 out) (W 256 (out.set (i + k) (((x * d + y + c) % 256 : Nat) : Int))) X (W 256 ((R b).take k)) c x d y ((x * d + y + c) / 256) ((x * d + y + c) % 256) (256 ^ i) (256 ^ k) hw (Nat.pow_add _ _ _) hset (by omega)
        rw [W_take, hd, ← Nat.add_assoc i k 1, Nat.pow_succ]
        exact this)
    obtain ⟨out', h, r⟩ := hstep
    refine ⟨out', ?_, r⟩
    rw [abacistref01_Mul_2_eq, cT (decide_eq_true (by omega)), wA (by omega), hl, cT (ix (by omega)), refAt b (by omega), Option.bind_some, Int.toNat_natCast, hv, cT (ix (by omega)), cT (decide_eq_true (by decide)), and_i64 _ (by omega) (by omega), p8, fd (by omega), wS (by omega),
      show ((x * d + y + c : Nat) : Int) / 256 = (((x * d + y + c) / 256 : Nat) : Int) by omega, show ((x * d + y + c : Nat) : Int) % 256 = (((x * d + y + c) % 256 : Nat) : Int) by omega]
    exact h
theorem refMul1 (a b : List UInt8) (ha : a.length ≤ 1099511627776) (hb : b.length ≤ 1099511627776) : ∀ (m i : Nat) (out : List Int), i + m = a.length → out.length = a.length + b.length → Ok 256 out → (∀ p, i + b.length ≤ p → out.getD p 0 = 0) →
    W 256 out = W 256 ((R a).take i) * val b → abacistref01_Mul_1 a b (i : Int) out = some (nat (val a * val b))
  | 0, i, out, hm, hl, ho, hz, hw => by
    rw [W_Rall a i (by omega)] at hw
    rw [abacistref01_Mul_1_eq, cF (decide_eq_false (by omega)), refTurned out ho (by omega), hw]; rfl
  | m + 1, i, out, hm, hl, ho, hz, hw => by
    have h1 := (R_ok a).getD (by decide) i
    have n1 : (R a).getD i 0 = (((R a).getD i 0).toNat : Int) := by omega
    generalize hx : ((R a).getD i 0).toNat = x at n1
    obtain ⟨out', h, q1, q2, q3, q4⟩ := refMul2 a b ha hb i (by omega) x (by omega) (W 256 out) b.length 0 0 out (Nat.zero_add _) hl ho (by omega) hz (by simp [W])
    rw [abacistref01_Mul_1_eq, cT (decide_eq_true (by omega)), refAt a (by omega), Option.bind_some, n1]
    refine Eq.trans h ?_
    refine refMul1 a b ha hb m (i + 1) out' (by omega) q1 q2 q3 ?_
    rw [q4, hw, W_take, hx, Nat.add_mul, Nat.mul_comm x]
theorem refMul (a b : List UInt8) (ha : a.length ≤ 1099511627776) (hb : b.length ≤ 1099511627776) : abacistref01_Mul a b = some (nat (val a * val b)) := by
  rw [abacistref01_Mul_eq, wA (by omega), show (decide (0 ≤ ((a.length + b.length : Nat) : Int)) && (decide (((a.length + b.length : Nat) : Int) ≤ ((a.length + b.length : Nat) : Int)) && decide (((8 : Nat) : Int) * ((a.length + b.length : Nat) : Int) ≤ 281474976710656))) = true by simp; omega, cond_true, Int.toNat_natCast]
  exact refMul1 a b ha hb a.length 0 _ (Nat.zero_add _) (by simp) (Ok.zeros (by decide) _) (fun p _ => by
    rw [List.getD_eq_getElem?_getD, List.getElem?_replicate]; split <;> rfl) (by rw [W_zeros]; simp [W])
end Go.Proofs.YtcdcijhfjiahkaaDoorR.P
