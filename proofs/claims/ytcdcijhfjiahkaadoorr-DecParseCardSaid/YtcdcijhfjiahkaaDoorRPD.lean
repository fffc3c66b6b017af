/- Division: the reference's, and the parts of the program's. -/
import Derived.Test.YtcdcijhfjiahkaaDoorRPC
set_option linter.unusedVariables false
set_option linter.unusedSimpArgs false
namespace Go.Proofs.YtcdcijhfjiahkaaDoorR.P
open Go Go.Proofs.YtcdcijhfjiahkaaDoorR.K Go.Proofs.YtcdcijhfjiahkaaDoorR.C
/-! ### the reference -/
theorem sgnv_neg {a b : Nat} : sgnv a b < 0 ↔ a < b := by
  unfold sgnv
  by_cases h : a < b
  · simp [h]
  · rw [if_neg h]; split <;> simp [h]
theorem len_mono {a b : Nat} (h : a ≤ b) : (nat a).length ≤ (nat b).length := by
  have := val_lt (nat b)
  rw [val_nat] at this
  exact nat_length_le (by omega)
theorem len_mul256 (b c : Nat) (hc : c ≤ 256) : (nat (b * c)).length ≤ (nat b).length + 1 := by
  have := val_lt (nat b)
  rw [val_nat] at this
  refine nat_length_le ?_
  rw [Nat.pow_succ]
  rcases Nat.eq_zero_or_pos c with h | h
  · subst h; have := Nat.pow_pos (n := (nat b).length) (show 0 < 256 by decide); omega
  · calc b * c < 256 ^ (nat b).length * c := Nat.mul_lt_mul_of_pos_right this h
      _ ≤ 256 ^ (nat b).length * 256 := Nat.mul_le_mul_left _ hc
theorem refDigitStep (B : Nat) (hB : 0 < B) (hl : (nat B).length ≤ 1000000000) (j q A : Nat) (hj : j ≤ 7) (hA : A < 2 ^ (j + 1) * B) (hq : q + 2 ^ (j + 1) ≤ 1000)
    (next : ∀ q' A' : Nat, q' + 2 ^ j ≤ 1000 → A' < 2 ^ j * B → abacistref02_digit_2 (nat A') (nat B) (q' : Int) ((2 ^ j : Nat) : Int) = some (((q' + A' / B : Nat) : Int), nat (A' % B))) :
    abacistref02_digit_1 (nat A) (nat B) (q : Int) ((2 ^ j : Nat) : Int) = some (((q + A / B : Nat) : Int), nat (A % B)) := by
  have hp : 2 ^ j ≤ 2 ^ 7 := Nat.pow_le_pow_right (by decide) hj
  have hp1 : 1 ≤ 2 ^ j := Nat.one_le_two_pow
  rw [Nat.pow_succ] at hA hq
  generalize 2 ^ j = s at *
  have hA2 : A ≤ B * 256 := by
    have h1 : s * 2 * B ≤ 256 * B := Nat.mul_le_mul_right _ (by omega)
    omega
  have lA : (nat A).length ≤ 1000000001 := Nat.le_trans (len_mono hA2) (Nat.le_trans (len_mul256 B 256 (by omega)) (by omega))
  have hm : abacistref01_Mul (nat B) [UInt8.ofNat (s % 256)] = some (nat (B * s)) := by
    rw [refMul _ _ (by omega) (by simp), val_nat, val_one, Nat.mod_eq_of_lt (by omega)]
  have lm := len_mul256 B s (by omega)
  rw [abacistref02_digit_1_eq, cT (decide_eq_true (by omega)), refByte, Option.bind_some, hm, Option.bind_some, refCmp _ _ (by omega) (by omega), Option.bind_some, val_nat, val_nat]
  by_cases hc : A < B * s
  · rw [cF (decide_eq_false (by have := sgnv_neg.2 hc; omega))]
    exact next q A (by omega) (by rw [Nat.mul_comm]; exact hc)
  · have hn : ¬ sgnv A (B * s) < 0 := fun h => hc (sgnv_neg.1 h)
    rw [cT (decide_eq_true (by omega)), refSub _ _ (by omega) (by omega), Option.bind_some, val_nat, val_nat, wA (by omega), next (q + s) (A - B * s) (by omega) (by rw [Nat.mul_comm s B]; rw [Nat.mul_right_comm, Nat.mul_comm s B] at hA; omega)]
    have e : A = (A - B * s) + B * s := by omega
    generalize A - B * s = D at e
    subst e
    rw [Nat.add_mul_div_left _ _ hB, Nat.add_mul_mod_self_left]
    congr 3
    omega
theorem refDigit1 (B : Nat) (hB : 0 < B) (hl : (nat B).length ≤ 1000000000) : ∀ (j q A : Nat), j ≤ 7 → A < 2 ^ (j + 1) * B → q + 2 ^ (j + 1) ≤ 1000 → abacistref02_digit_1 (nat A) (nat B) (q : Int) ((2 ^ j : Nat) : Int) = some (((q + A / B : Nat) : Int), nat (A % B))
  | 0, q, A, hj, hA, hq => refDigitStep B hB hl 0 q A hj hA hq fun q' A' h1 h2 => by
    have h3 : A' < B := by simpa using h2
    rw [abacistref02_digit_2_eq, cT (by rfl), show IntKind.i64.wrap (((2 ^ 0 : Nat) : Int).tdiv 2) = 0 by decide, abacistref02_digit_1_eq, cF (by decide), Nat.div_eq_of_lt h3, Nat.mod_eq_of_lt h3]; rfl
  | j + 1, q, A, hj, hA, hq => refDigitStep B hB hl (j + 1) q A hj hA hq fun q' A' h1 h2 => by
    have hp : 2 ^ (j + 1) ≤ 2 ^ 7 := Nat.pow_le_pow_right (by decide) hj
    have e : IntKind.i64.wrap (((2 ^ (j + 1) : Nat) : Int).tdiv 2) = ((2 ^ j : Nat) : Int) := by
      rw [Nat.pow_succ] at hp ⊢
      generalize 2 ^ j = s at *
      rw [Int.tdiv_eq_ediv_of_nonneg (by omega), wrap64 (by omega) (by omega)]
      omega
    rw [abacistref02_digit_2_eq, cT (by rfl), e]
    exact refDigit1 B hB hl j q' A' (by omega) h2 h1
theorem refDigit (A B : Nat) (hB : 0 < B) (hl : (nat B).length ≤ 1000000000) (hA : A < 256 * B) : abacistref02_digit (nat A) (nat B) = some (((A / B : Nat) : Int), nat (A % B)) := by
  have hA2 : A ≤ B * 256 := by omega
  have lA : (nat A).length ≤ 1000000001 := Nat.le_trans (len_mono hA2) (Nat.le_trans (len_mul256 B 256 (by omega)) (by omega))
  rw [abacistref02_digit_eq, refCmp _ _ (by omega) (by omega), Option.bind_some, val_nat, val_nat]
  by_cases h : A < B
  · rw [cT (decide_eq_true (sgnv_neg.2 h)), Nat.div_eq_of_lt h, Nat.mod_eq_of_lt h]; rfl
  · rw [cF (decide_eq_false (fun hh => h (sgnv_neg.1 hh)))]
    have := refDigit1 B hB hl 7 0 A (by omega) (by omega) (by omega)
    rw [Nat.zero_add] at this
    exact this
theorem take_one (t : List UInt8) (i : Nat) (h : i < t.length) : (t.take (i + 1)).drop i = [t[i]] := by
  rw [List.drop_take, show i + 1 - i = 1 by omega, List.drop_eq_getElem_cons h]; rfl
theorem val_take1 (t : List UInt8) (i : Nat) (h : i < t.length) : val (t.take (i + 1)) = val (t.take i) * 256 + (t[i]).toNat := by
  rw [List.take_add_one, List.getElem?_eq_getElem h]
  simp only [Option.toList_some, val_snoc]
theorem refDivMod1 (t : List UInt8) (B : Nat) (hB : 0 < B) (hl : (nat B).length ≤ 1000000000) (ht : t.length ≤ 1000000000) : ∀ (m i : Nat) (acc : List UInt8), i + m = t.length → acc.length = i → val acc = val (t.take i) / B →
    abacistref02_DivMod_1 t (nat B) acc (nat (val (t.take i) % B)) (i : Int) = some (nat (val t / B), nat (val t % B), 0)
  | 0, i, acc, hi, ha, hv => by
    obtain rfl : i = t.length := by omega
    rw [List.take_length] at hv ⊢
    rw [abacistref02_DivMod_1_eq, cF (decide_eq_false (by omega)), refTrim _ (by omega), Option.bind_some, hv]
  | m + 1, i, acc, hi, ha, hv => by
    have hlt : i < t.length := by omega
    have hr := Nat.mod_lt (val (t.take i)) hB
    have hd := Nat.div_add_mod (val (t.take i)) B
    have hb := (t[i]).toNat_lt
    have lr : (nat (val (t.take i) % B)).length ≤ (nat B).length := len_mono (Nat.le_of_lt hr)
    have e := val_take1 t i hlt
    generalize val (t.take i) / B = Q at hv hd
    generalize val (t.take i) % B = r at *
    have hdig : r * 256 + (t[i]).toNat < 256 * B := by omega
    have hq : (r * 256 + (t[i]).toNat) / B < 256 := (Nat.div_lt_iff_lt_mul hB).2 hdig
    have e2 : val (t.take (i + 1)) = (r * 256 + (t[i]).toNat) + B * (Q * 256) := by rw [e, ← hd]; rw [Nat.add_mul, Nat.mul_assoc]; omega
    have := refDivMod1 t B hB hl ht m (i + 1) (acc ++ [UInt8.ofNat ((r * 256 + (t[i]).toNat) / B % 256)]) (by omega) (by simp [ha]) (by
      rw [val_append, val_one, hv, e2, Nat.add_mul_div_left _ _ hB, Nat.mod_eq_of_lt hq]
      simp
      omega)
    rw [e2, Nat.add_mul_mod_self_left] at this
    rw [abacistref02_DivMod_1_eq, cT (decide_eq_true (by omega)), wS (by omega), cT (inC3 (by omega) (by omega)), Int.toNat_natCast, Int.toNat_natCast, take_one t i hlt, cT (Nat.ble_eq_true_of_le (by simp; omega)), refTrim _ (by simp; omega), Option.bind_some, val_snoc, val_nat, refDigit _ _ hB hl hdig,
      Option.bind_some, refByte, Option.bind_some, cT (Nat.ble_eq_true_of_le (by simp; omega))]
    exact this
def divmod (a b : Nat) : List UInt8 × List UInt8 × Int := if b = 0 then ([], [], 5) else (nat (a / b), nat (a % b), 0)
theorem refDivMod (a b : List UInt8) (ha : a.length ≤ 1000000000) (hb : b.length ≤ 1000000000) : abacistref02_DivMod a b = some (divmod (val a) (val b)) := by
  have la := nat_val_length a
  have lb := nat_val_length b
  rw [abacistref02_DivMod_eq, refTrim b (by omega), Option.bind_some, divmod]
  by_cases h : val b = 0
  · rw [if_pos h, cT (decide_eq_true (nat_eq_nil.2 h))]
  · rw [if_neg h, cF (decide_eq_false (fun e => h (nat_eq_nil.1 e))), refTrim a (by omega), Option.bind_some]
    have := refDivMod1 (nat (val a)) (val b) (by omega) (by omega) (by omega) _ 0 [] (Nat.zero_add _) rfl (by simp [val_nil])
    rw [List.take_zero, val_nil, Nat.zero_mod, nat_zero, val_nat] at this
    exact this
/-! ### limbs of a text, and back -/
theorem divRead1 : ∀ (n : Nat) (s : List UInt8) (acc : List Int), s.length ≤ n → s.length + 4 * acc.length ≤ 4398046511104 → (∀ b l, s = b :: l → b ≠ 0) → divide_read_1 s acc = some (acc ++ limbs (val s))
  | 0, s, acc, h, hl, hs => by
    obtain rfl : s = [] := List.eq_nil_of_length_eq_zero (by omega)
    rw [divide_read_1_eq, cF (decide_eq_false (by simp)), val_nil, limbs_zero, List.append_nil]
  | n + 1, s, acc, h, hl, hs => by
    by_cases h0 : s.length = 0
    · obtain rfl : s = [] := List.eq_nil_of_length_eq_zero h0
      rw [divide_read_1_eq, cF (decide_eq_false (by simp)), val_nil, limbs_zero, List.append_nil]
    · have hw : max 0 (IntKind.i64.wrap ((s.length : Int) - 4)) = ((s.length - 4 : Nat) : Int) := by rw [wrap64 (by omega) (by omega)]; omega
      have hcl : (s.drop (s.length - 4)).length ≤ 4 := by simp; omega
      have hv := val_lt (s.drop (s.length - 4))
      have hp : 256 ^ (s.drop (s.length - 4)).length ≤ 256 ^ 4 := Nat.pow_le_pow_right (by decide) hcl
      have hnz : val s ≠ 0 := fun e => h0 (by rw [← trim_fix hs, e, nat_zero]; rfl)
      have hval : val s = val (s.take (s.length - 4)) * 256 ^ (s.drop (s.length - 4)).length + val (s.drop (s.length - 4)) := by rw [← val_append, List.take_append_drop]
      have hst : ∀ b l, s.take (s.length - 4) = b :: l → b ≠ 0 := by
        intro b l e
        cases s with
        | nil => simp at e
        | cons c s =>
          cases hk : (c :: s).length - 4 with
          | zero => rw [hk] at e; simp at e
          | succ k => rw [hk] at e; simp at e; rw [← e.1]; exact hs c s rfl
      have hm : val s % 4294967296 = val (s.drop (s.length - 4)) ∧ val s / 4294967296 = val (s.take (s.length - 4)) := by
        by_cases h4 : s.length ≤ 4
        · rw [show s.length - 4 = 0 by omega] at *
          simp only [List.take_zero, List.drop_zero, val_nil] at *
          constructor <;> omega
        · rw [show (s.drop (s.length - 4)).length = 4 by simp; omega] at *
          constructor <;> omega
      have e1 : IntKind.u32.wrap (((val (s.drop (s.length - 4)) : Nat) : Int)) = ((val s % 4294967296 : Nat) : Int) := by rw [hm.1, wrapU32 (by omega) (by omega)]
      rw [divide_read_1_eq, cT (decide_eq_true (show (s.length : Int) > 0 by omega)), hw, cT (inC (by omega)), Int.toNat_natCast, natSmall _ (by omega), Option.bind_some, small, if_pos (by omega), e1, cT (room _ _ _ (by simp; omega)), cT (inC (by omega)),
        divRead1 n _ _ (by simp; omega) (by simp; omega) hst, limbs_pos hnz, hm.2, List.append_assoc]
      rfl
theorem divRead (s : List UInt8) (h : s.length ≤ 1000000000) : divide_read s = some (limbs (val s)) := by
  have := nat_val_length s
  rw [divide_read_eq, natTrim, Option.bind_some, divRead1 _ _ [] (Nat.le_refl _) (by simp; omega) (nat_head _), val_nat, List.nil_append]
theorem divText (l : List Int) (hl : l.length ≤ 1000000000) (ho : Ok 4294967296 l) : divide_limbs_text l = some (nat (W 4294967296 l)) := by
  refine (top_call ..).trans ?_
  show H.textDivF l = _
  unfold H.textDivF
  rw [cT (decide_eq_true (by omega)), trimB]
  have : H.be4Div l.reverse = H.be4 l.reverse := rfl
  rw [this, be4_ok l ho]
theorem W_dropS (B : Nat) (l : List Int) (k : Nat) (h : k < l.length) : W B (l.drop k) = (l.getD k 0).toNat + B * W B (l.drop (k + 1)) := by
  rw [List.drop_eq_getElem_cons h, W, List.getD_eq_getElem?_getD, List.getElem?_eq_getElem h]; rfl
theorem short1 (l : List Int) (v : Nat) (hb : 0 < v) (hb2 : v < 4294967296) (ho : Ok 4294967296 l) : ∀ (k : Nat) (st : Int × List Int), k ≤ l.length → Ok 4294967296 st.2 → st.2.length = l.length → (∀ p, p < k → st.2.getD p 0 = 0) →
    st.1 = ((W 4294967296 (l.drop k) % v : Nat) : Int) → W 4294967296 st.2 = 4294967296 ^ k * (W 4294967296 (l.drop k) / v) →
    (((List.range k).reverse).foldl (H.shortStep l (v : Int)) st).1 = ((W 4294967296 l % v : Nat) : Int) ∧ W 4294967296 (((List.range k).reverse).foldl (H.shortStep l (v : Int)) st).2 = W 4294967296 l / v ∧
      Ok 4294967296 (((List.range k).reverse).foldl (H.shortStep l (v : Int)) st).2 ∧ (((List.range k).reverse).foldl (H.shortStep l (v : Int)) st).2.length = l.length
  | 0, st, hk, h1, h2, h3, h4, h5 => by
    rw [List.drop_zero] at h4 h5
    refine ⟨h4, ?_, h1, h2⟩
    show W _ st.2 = _
    rw [h5]; simp
  | k + 1, (rest, out), hk, h1, h2, h3, h4, h5 => by
    have hkl : k < l.length := by omega
    have hx := ho.getD (by decide) k
    have e0 : rd l (k : Int) = l.getD k 0 := rfl
    have hm := Nat.mod_lt (W 4294967296 (l.drop (k + 1))) hb
    have hd := Nat.div_add_mod (W 4294967296 (l.drop (k + 1))) v
    have hW := W_dropS 4294967296 l k hkl
    simp only at h1 h2 h3 h4 h5
    generalize hQ : W 4294967296 (l.drop (k + 1)) / v = Q at *
    generalize hr : W 4294967296 (l.drop (k + 1)) % v = r at *
    have n0 : l.getD k 0 = ((l.getD k 0).toNat : Int) := by omega
    generalize hy : (l.getD k 0).toNat = y at n0 hW
    have hq : (r * 4294967296 + y) / v < 4294967296 := (Nat.div_lt_iff_lt_mul hb).2 (by have : (r + 1) * 4294967296 ≤ v * 4294967296 := Nat.mul_le_mul_right _ hm; omega)
    have ex : H.shortX rest (rd l (k : Int)) = ((r * 4294967296 + y : Nat) : Int) := by
      unfold H.shortX
      rw [e0, n0, h4, wrapU64 (n := (y : Int)) (by omega) (by omega), wrapU64 (n := (r : Int) * 4294967296) (by omega) (by omega), ← bitop_or, or_u64 _ _ 32 (by omega) (by omega) (by omega) (by omega) (by omega) (by omega)]
      omega
    have eW : W 4294967296 (l.drop k) = (r * 4294967296 + y) + v * (4294967296 * Q) := by
      rw [hW, ← hd, Nat.mul_add, Nat.mul_left_comm v]; omega
    have eq1 : (IntKind.u64.wrap (((r * 4294967296 + y : Nat) : Int).tdiv (v : Int))) % 4294967296 = (((r * 4294967296 + y) / v : Nat) : Int) := by
      rw [Int.tdiv_eq_ediv_of_nonneg (by omega), ← Int.natCast_ediv]
      generalize (r * 4294967296 + y) / v = d at hq
      rw [wrapU64 (by omega) (by omega)]
      omega
    have es : H.shortStep l (v : Int) (rest, out) k = ((((r * 4294967296 + y) % v : Nat) : Int), out.set k (((r * 4294967296 + y) / v : Nat) : Int)) := by
      unfold H.shortStep
      simp only
      rw [ex, eq1, Int.tmod_eq_emod_of_nonneg (by omega), ← Int.natCast_emod]
    rw [List.range_succ, List.reverse_append, List.reverse_singleton, List.singleton_append, List.foldl_cons, es]
    refine short1 l v hb hb2 ho k _ (by omega) (h1.set _ (Int.natCast_nonneg _) (by exact_mod_cast hq)) (by simp [h2]) (fun p hp => ?_) ?_ ?_
    · simp only
      rw [getD_set_ne _ _ _ _ (by omega)]; exact h3 p (by omega)
    · simp only
      rw [eW, Nat.add_mul_mod_self_left]
    · simp only
      have hs := W_set' 4294967296 out k ((r * 4294967296 + y) / v) (by omega)
      rw [h3 k (by omega)] at hs
      rw [eW, Nat.add_mul_div_left _ _ hb]
      simp only [Int.toNat_zero, Nat.mul_zero, Nat.add_zero] at hs
      rw [hs, h5, Nat.pow_succ, Nat.mul_add, Nat.mul_assoc]
      omega
theorem divShort (l : List Int) (v : Nat) (hb : 0 < v) (hb2 : v < 4294967296) (ho : Ok 4294967296 l) (hl : l.length ≤ 1000000000) : ∃ out, divide_limbs_short l (v : Int) = some (out, [((W 4294967296 l % v : Nat) : Int)]) ∧ Ok 4294967296 out ∧ out.length = l.length ∧ W 4294967296 out = W 4294967296 l / v := by
  obtain ⟨h1, h2, h3, h4⟩ := short1 l v hb hb2 ho l.length (0, List.replicate l.length 0) (Nat.le_refl _) (Ok.zeros (by decide) _) (by simp) (fun p _ => zeros_getD _ _) (by simp [W]) (by simp [W, W_zeros])
  refine ⟨_, ?_, h3, h4, h2⟩
  refine (top_call ..).trans ?_
  show H.shortF (l, (v : Int)) = _
  unfold H.shortF
  have hm := Nat.mod_lt (W 4294967296 l) hb
  rw [cT (by simp; omega)]
  unfold H.shortEnd H.shortSt
  rw [h1]
  generalize W 4294967296 l % v = R at hm ⊢
  rw [show ((R : Nat) : Int) % 4294967296 = (R : Int) by omega]
end Go.Proofs.YtcdcijhfjiahkaaDoorR.P
