/- Part 6 of the proof: the machine, the tables and the pure laws that the last text joins. -/
import Derived.Test.YtgnkkanhjghhfaaGreatDoorZ5
import Derived.Test.YtgnkkanhjghhfaaGreatDoorZ4
set_option linter.unusedVariables false
set_option linter.unusedSimpArgs false
namespace Go.Proofs.YtgnkkanhjghhfaaGreatDoor.P
open Go Go.Proofs.YtgnkkanhjghhfaaGreatDoor.K Go.Proofs.YtgnkkanhjghhfaaGreatDoor.C
theorem sgnv_neg {a b : Nat} : sgnv a b < 0 ↔ a < b := by
 unfold sgnv
 by_cases h : a < b
 ·simp [h]
 ·rw [if_neg h]; split <;> simp [h]
theorem len_mono {a b : Nat} (h : a ≤ b) : (nat a).length ≤ (nat b).length := by
 have := val_lt (nat b)
 rw [val_nat] at this
 exact nat_length_le (by omega)
theorem len_mul256 (b c : Nat) (hc : c ≤ 256) : (nat (b * c)).length ≤ (nat b).length + 1 := by
 have := val_lt (nat b)
 rw [val_nat] at this
 refine nat_length_le ?_
 rw [Nat.pow_succ]
 rcases Nat.eq_zero_or_pos c with h | h
 ·subst h; have := Nat.pow_pos (n := (nat b).length) (show 0 < 256 by decide); omega
 ·calc b * c < 256 ^ (nat b).length * c := Nat.mul_lt_mul_of_pos_right this h
   _ ≤ 256 ^ (nat b).length * 256 := Nat.mul_le_mul_left _ hc
theorem refDigitStep (B : Nat) (hB : 0 < B) (hl : (nat B).length ≤ 1000000000) (j q A : Nat) (hj : j ≤ 7) (hA : A < 2 ^ (j + 1) * B) (hq : q + 2 ^ (j + 1) ≤ 1000)
  (next : ∀ q' A' : Nat, q' + 2 ^ j ≤ 1000 → A' < 2 ^ j * B → r02_digit_2 (nat A') (nat B) (q' : Int) ((2 ^ j : Nat) : Int) = some (((q' + A' / B : Nat) : Int), nat (A' % B))) :
  r02_digit_1 (nat A) (nat B) (q : Int) ((2 ^ j : Nat) : Int) = some (((q + A / B : Nat) : Int), nat (A % B)) := by
 have hp : 2 ^ j ≤ 2 ^ 7 := Nat.pow_le_pow_right (by decide) hj
 have hp1 : 1 ≤ 2 ^ j := Nat.one_le_two_pow
 rw [Nat.pow_succ] at hA hq
 generalize 2 ^ j = s at *
 have hA2 : A ≤ B * 256 := by
  have h1 : s * 2 * B ≤ 256 * B := Nat.mul_le_mul_right _ (by omega)
  omega
 have lA : (nat A).length ≤ 1000000001 := Nat.le_trans (len_mono hA2) (Nat.le_trans (len_mul256 B 256 (by omega)) (by omega))
 have hm : r01_Mul (nat B) [UInt8.ofNat (s % 256)] = some (nat (B * s)) := by
  rw [refMul _ _ (by omega) (by simp), val_nat, val_one, Nat.mod_eq_of_lt (by omega)]
 have lm := len_mul256 B s (by omega)
 rw [r02_digit_1_eq, cT (decide_eq_true (by omega)), refByte, Option.bind_some, hm, Option.bind_some, refCmp _ _ (by omega) (by omega), Option.bind_some, val_nat, val_nat]
 by_cases hc : A < B * s
 ·rw [cF (decide_eq_false (by have := sgnv_neg.2 hc; omega))]
  exact next q A (by omega) (by rw [Nat.mul_comm]; exact hc)
 ·have hn : ¬ sgnv A (B * s) < 0 := fun h => hc (sgnv_neg.1 h)
  rw [cT (decide_eq_true (by omega)), refSub _ _ (by omega) (by omega), Option.bind_some, val_nat, val_nat, wA (by omega), next (q + s) (A - B * s) (by omega) (by rw [Nat.mul_comm s B]; rw [Nat.mul_right_comm, Nat.mul_comm s B] at hA; omega)]
  have e : A = (A - B * s) + B * s := by omega
  generalize A - B * s = D at e
  subst e
  rw [Nat.add_mul_div_left _ _ hB, Nat.add_mul_mod_self_left]
  congr 3
  omega
theorem refDigit1 (B : Nat) (hB : 0 < B) (hl : (nat B).length ≤ 1000000000) : ∀ (j q A : Nat), j ≤ 7 → A < 2 ^ (j + 1) * B → q + 2 ^ (j + 1) ≤ 1000 → r02_digit_1 (nat A) (nat B) (q : Int) ((2 ^ j : Nat) : Int) = some (((q + A / B : Nat) : Int), nat (A % B))
 | 0, q, A, hj, hA, hq => refDigitStep B hB hl 0 q A hj hA hq fun q' A' h1 h2 => by
  have h3 : A' < B := by simpa using h2
  rw [r02_digit_2_eq, cT (by rfl), show IntKind.i64.wrap (((2 ^ 0 : Nat) : Int).tdiv 2) = 0 by decide, r02_digit_1_eq, cF (by decide), Nat.div_eq_of_lt h3, Nat.mod_eq_of_lt h3]; rfl
 | j + 1, q, A, hj, hA, hq => refDigitStep B hB hl (j + 1) q A hj hA hq fun q' A' h1 h2 => by
  have hp : 2 ^ (j + 1) ≤ 2 ^ 7 := Nat.pow_le_pow_right (by decide) hj
  have e : IntKind.i64.wrap (((2 ^ (j + 1) : Nat) : Int).tdiv 2) = ((2 ^ j : Nat) : Int) := by
   rw [Nat.pow_succ] at hp ⊢
   generalize 2 ^ j = s at *
   rw [Int.tdiv_eq_ediv_of_nonneg (by omega), wrap64 (by omega) (by omega)]
   omega
  rw [r02_digit_2_eq, cT (by rfl), e]
  exact refDigit1 B hB hl j q' A' (by omega) h2 h1
theorem refDigit (A B : Nat) (hB : 0 < B) (hl : (nat B).length ≤ 1000000000) (hA : A < 256 * B) : r02_digit (nat A) (nat B) = some (((A / B : Nat) : Int), nat (A % B)) := by
 have hA2 : A ≤ B * 256 := by omega
 have lA : (nat A).length ≤ 1000000001 := Nat.le_trans (len_mono hA2) (Nat.le_trans (len_mul256 B 256 (by omega)) (by omega))
 rw [r02_digit_eq, refCmp _ _ (by omega) (by omega), Option.bind_some, val_nat, val_nat]
 by_cases h : A < B
 ·rw [cT (decide_eq_true (sgnv_neg.2 h)), Nat.div_eq_of_lt h, Nat.mod_eq_of_lt h]; rfl
 ·rw [cF (decide_eq_false (fun hh => h (sgnv_neg.1 hh)))]
  have := refDigit1 B hB hl 7 0 A (by omega) (by omega) (by omega)
  rw [Nat.zero_add] at this
  exact this
theorem take_one (t : List UInt8) (i : Nat) (h : i < t.length) : (t.take (i + 1)).drop i = [t[i]] := by
 rw [List.drop_take, show i + 1 - i = 1 by omega, List.drop_eq_getElem_cons h]; rfl
theorem val_take1 (t : List UInt8) (i : Nat) (h : i < t.length) : val (t.take (i + 1)) = val (t.take i) * 256 + (t[i]).toNat := by
 rw [List.take_add_one, List.getElem?_eq_getElem h]
 simp only [Option.toList_some, val_snoc]
theorem refDivMod1 (t : List UInt8) (B : Nat) (hB : 0 < B) (hl : (nat B).length ≤ 1000000000) (ht : t.length ≤ 1000000000) : ∀ (m i : Nat) (acc : List UInt8), i + m = t.length → acc.length = i → val acc = val (t.take i) / B →
  r02_DivMod_1 t (nat B) acc (nat (val (t.take i) % B)) (i : Int) = some (nat (val t / B), nat (val t % B), 0)
 | 0, i, acc, hi, ha, hv => by
  obtain rfl : i = t.length := by omega
  rw [List.take_length] at hv ⊢
  rw [r02_DivMod_1_eq, cF (decide_eq_false (by omega)), refTrim _ (by omega), Option.bind_some, hv]
 | m + 1, i, acc, hi, ha, hv => by
  have hlt : i < t.length := by omega
  have hr := Nat.mod_lt (val (t.take i)) hB
  have hd := Nat.div_add_mod (val (t.take i)) B
  have hb := (t[i]).toNat_lt
  have lr : (nat (val (t.take i) % B)).length ≤ (nat B).length := len_mono (Nat.le_of_lt hr)
  have e := val_take1 t i hlt
  generalize val (t.take i) / B = Q at hv hd
  generalize val (t.take i) % B = r at *
  have hdig : r * 256 + (t[i]).toNat < 256 * B := by omega
  have hq : (r * 256 + (t[i]).toNat) / B < 256 := (Nat.div_lt_iff_lt_mul hB).2 hdig
  have e2 : val (t.take (i + 1)) = (r * 256 + (t[i]).toNat) + B * (Q * 256) := by rw [e, ← hd]; rw [Nat.add_mul, Nat.mul_assoc]; omega
  have := refDivMod1 t B hB hl ht m (i + 1) (acc ++ [UInt8.ofNat ((r * 256 + (t[i]).toNat) / B % 256)]) (by omega) (by simp [ha]) (by
   rw [val_append, val_one, hv, e2, Nat.add_mul_div_left _ _ hB, Nat.mod_eq_of_lt hq]
   simp
   omega)
  rw [e2, Nat.add_mul_mod_self_left] at this
  rw [r02_DivMod_1_eq, cT (decide_eq_true (by omega)), wS (by omega), cT (inC3 (by omega) (by omega)), Int.toNat_natCast, Int.toNat_natCast, take_one t i hlt, cT (Nat.ble_eq_true_of_le (by simp; omega)), refTrim _ (by simp; omega), Option.bind_some, val_snoc, val_nat, refDigit _ _ hB hl hdig,
   Option.bind_some, refByte, Option.bind_some, cT (Nat.ble_eq_true_of_le (by simp; omega))]
  exact this
def divmod (a b : Nat) : List UInt8 × List UInt8 × Int := if b = 0 then ([], [], 5) else (nat (a / b), nat (a % b), 0)
theorem refDivMod (a b : List UInt8) (ha : a.length ≤ 1000000000) (hb : b.length ≤ 1000000000) : r02_DivMod a b = some (divmod (val a) (val b)) := by
 have la := nat_val_length a
 have lb := nat_val_length b
 rw [r02_DivMod_eq, refTrim b (by omega), Option.bind_some, divmod]
 by_cases h : val b = 0
 ·rw [if_pos h, cT (decide_eq_true (nat_eq_nil.2 h))]
 ·rw [if_neg h, cF (decide_eq_false (fun e => h (nat_eq_nil.1 e))), refTrim a (by omega), Option.bind_some]
  have := refDivMod1 (nat (val a)) (val b) (by omega) (by omega) (by omega) _ 0 [] (Nat.zero_add _) rfl (by simp [val_nil])
  rw [List.take_zero, val_nil, Nat.zero_mod, nat_zero, val_nat] at this
  exact this
theorem divRead1 : ∀ (n : Nat) (s : List UInt8) (acc : List Int), s.length ≤ n → s.length + 4 * acc.length ≤ 4398046511104 → (∀ b l, s = b :: l → b ≠ 0) → divide_read_1 s acc = some (acc ++ limbs (val s))
 | 0, s, acc, h, hl, hs => by
  obtain rfl : s = [] := List.eq_nil_of_length_eq_zero (by omega)
  rw [divide_read_1_eq, cF (decide_eq_false (by simp)), val_nil, limbs_zero, List.append_nil]
 | n + 1, s, acc, h, hl, hs => by
  by_cases h0 : s.length = 0
  ·obtain rfl : s = [] := List.eq_nil_of_length_eq_zero h0
   rw [divide_read_1_eq, cF (decide_eq_false (by simp)), val_nil, limbs_zero, List.append_nil]
  ·have hw : max 0 (IntKind.i64.wrap ((s.length : Int) - 4)) = ((s.length - 4 : Nat) : Int) := by rw [wrap64 (by omega) (by omega)]; omega
   have hcl : (s.drop (s.length - 4)).length ≤ 4 := by simp; omega
   have hv := val_lt (s.drop (s.length - 4))
   have hp : 256 ^ (s.drop (s.length - 4)).length ≤ 256 ^ 4 := Nat.pow_le_pow_right (by decide) hcl
   have hnz : val s ≠ 0 := fun e => h0 (by rw [← trim_fix hs, e, nat_zero]; rfl)
   have hval : val s = val (s.take (s.length - 4)) * 256 ^ (s.drop (s.length - 4)).length + val (s.drop (s.length - 4)) := by rw [← val_append, List.take_append_drop]
   have hst : ∀ b l, s.take (s.length - 4) = b :: l → b ≠ 0 := by
    intro b l e
    cases s with
    | nil => simp at e
    | cons c s =>
     cases hk : (c :: s).length - 4 with
     | zero => rw [hk] at e; simp at e
     | succ k => rw [hk] at e; simp at e; rw [← e.1]; exact hs c s rfl
   have hm : val s % 4294967296 = val (s.drop (s.length - 4)) ∧ val s / 4294967296 = val (s.take (s.length - 4)) := by
    by_cases h4 : s.length ≤ 4
    ·rw [show s.length - 4 = 0 by omega] at *
     simp only [List.take_zero, List.drop_zero, val_nil] at *
     constructor <;> omega
    ·rw [show (s.drop (s.length - 4)).length = 4 by simp; omega] at *
     constructor <;> omega
   have e1 : IntKind.u32.wrap (((val (s.drop (s.length - 4)) : Nat) : Int)) = ((val s % 4294967296 : Nat) : Int) := by rw [hm.1, wrapU32 (by omega) (by omega)]
   rw [divide_read_1_eq, cT (decide_eq_true (show (s.length : Int) > 0 by omega)), hw, cT (inC (by omega)), Int.toNat_natCast, natSmall _ (by omega), Option.bind_some, small, if_pos (by omega), e1, cT (room _ _ _ (by simp; omega)), cT (inC (by omega)),
    divRead1 n _ _ (by simp; omega) (by simp; omega) hst, limbs_pos hnz, hm.2, List.append_assoc]
   rfl
theorem divRead (s : List UInt8) (h : s.length ≤ 1000000000) : divide_read s = some (limbs (val s)) := by
 have := nat_val_length s
 rw [divide_read_eq, natTrim, Option.bind_some, divRead1 _ _ [] (Nat.le_refl _) (by simp; omega) (nat_head _), val_nat, List.nil_append]
theorem divText (l : List Int) (hl : l.length ≤ 1000000000) (ho : Ok 4294967296 l) : divide_limbs_text l = some (nat (W 4294967296 l)) := by
 refine (top_call ..).trans ?_
 show H.textDivF l = _
 unfold H.textDivF
 rw [cT (decide_eq_true (by omega)), trimB]
 have : H.be4Div l.reverse = H.be4 l.reverse := rfl
 rw [this, be4_ok l ho]
theorem W_dropS (B : Nat) (l : List Int) (k : Nat) (h : k < l.length) : W B (l.drop k) = (l.getD k 0).toNat + B * W B (l.drop (k + 1)) := by
 rw [List.drop_eq_getElem_cons h, W, List.getD_eq_getElem?_getD, List.getElem?_eq_getElem h]; rfl
theorem short1 (l : List Int) (v : Nat) (hb : 0 < v) (hb2 : v < 4294967296) (ho : Ok 4294967296 l) : ∀ (k : Nat) (st : Int × List Int), k ≤ l.length → Ok 4294967296 st.2 → st.2.length = l.length → (∀ p, p < k → st.2.getD p 0 = 0) →
  st.1 = ((W 4294967296 (l.drop k) % v : Nat) : Int) → W 4294967296 st.2 = 4294967296 ^ k * (W 4294967296 (l.drop k) / v) →
  (((List.range k).reverse).foldl (H.shortStep l (v : Int)) st).1 = ((W 4294967296 l % v : Nat) : Int) ∧ W 4294967296 (((List.range k).reverse).foldl (H.shortStep l (v : Int)) st).2 = W 4294967296 l / v ∧
   Ok 4294967296 (((List.range k).reverse).foldl (H.shortStep l (v : Int)) st).2 ∧ (((List.range k).reverse).foldl (H.shortStep l (v : Int)) st).2.length = l.length
 | 0, st, hk, h1, h2, h3, h4, h5 => by
  rw [List.drop_zero] at h4 h5
  refine ⟨h4, ?_, h1, h2⟩
  show W _ st.2 = _
  rw [h5]; simp
 | k + 1, (rest, out), hk, h1, h2, h3, h4, h5 => by
  have hkl : k < l.length := by omega
  have hx := ho.getD (by decide) k
  have e0 : rd l (k : Int) = l.getD k 0 := rfl
  have hm := Nat.mod_lt (W 4294967296 (l.drop (k + 1))) hb
  have hd := Nat.div_add_mod (W 4294967296 (l.drop (k + 1))) v
  have hW := W_dropS 4294967296 l k hkl
  simp only at h1 h2 h3 h4 h5
  generalize hQ : W 4294967296 (l.drop (k + 1)) / v = Q at *
  generalize hr : W 4294967296 (l.drop (k + 1)) % v = r at *
  have n0 : l.getD k 0 = ((l.getD k 0).toNat : Int) := by omega
  generalize hy : (l.getD k 0).toNat = y at n0 hW
  have hq : (r * 4294967296 + y) / v < 4294967296 := (Nat.div_lt_iff_lt_mul hb).2 (by have : (r + 1) * 4294967296 ≤ v * 4294967296 := Nat.mul_le_mul_right _ hm; omega)
  have ex : H.shortX rest (rd l (k : Int)) = ((r * 4294967296 + y : Nat) : Int) := by
   unfold H.shortX
   rw [e0, n0, h4, wrapU64 (n := (y : Int)) (by omega) (by omega), wrapU64 (n := (r : Int) * 4294967296) (by omega) (by omega), ← bitop_or, or_u64 _ _ 32 (by omega) (by omega) (by omega) (by omega) (by omega) (by omega)]
   omega
  have eW : W 4294967296 (l.drop k) = (r * 4294967296 + y) + v * (4294967296 * Q) := by
   rw [hW, ← hd, Nat.mul_add, Nat.mul_left_comm v]; omega
  have eq1 : (IntKind.u64.wrap (((r * 4294967296 + y : Nat) : Int).tdiv (v : Int))) % 4294967296 = (((r * 4294967296 + y) / v : Nat) : Int) := by
   rw [Int.tdiv_eq_ediv_of_nonneg (by omega), ← Int.natCast_ediv]
   generalize (r * 4294967296 + y) / v = d at hq
   rw [wrapU64 (by omega) (by omega)]
   omega
  have es : H.shortStep l (v : Int) (rest, out) k = ((((r * 4294967296 + y) % v : Nat) : Int), out.set k (((r * 4294967296 + y) / v : Nat) : Int)) := by
   unfold H.shortStep
   simp only
   rw [ex, eq1, Int.tmod_eq_emod_of_nonneg (by omega), ← Int.natCast_emod]
  rw [List.range_succ, List.reverse_append, List.reverse_singleton, List.singleton_append, List.foldl_cons, es]
  refine short1 l v hb hb2 ho k _ (by omega) (h1.set _ (Int.natCast_nonneg _) (by exact_mod_cast hq)) (by simp [h2]) (fun p hp => ?_) ?_ ?_
  ·simp only
   rw [getD_set_ne _ _ _ _ (by omega)]; exact h3 p (by omega)
  ·simp only
   rw [eW, Nat.add_mul_mod_self_left]
  ·simp only
   have hs := W_set' 4294967296 out k ((r * 4294967296 + y) / v) (by omega)
   rw [h3 k (by omega)] at hs
   rw [eW, Nat.add_mul_div_left _ _ hb]
   simp only [Int.toNat_zero, Nat.mul_zero, Nat.add_zero] at hs
   rw [hs, h5, Nat.pow_succ, Nat.mul_add, Nat.mul_assoc]
   omega
theorem divShort (l : List Int) (v : Nat) (hb : 0 < v) (hb2 : v < 4294967296) (ho : Ok 4294967296 l) (hl : l.length ≤ 1000000000) : ∃ out, divide_limbs_short l (v : Int) = some (out, [((W 4294967296 l % v : Nat) : Int)]) ∧ Ok 4294967296 out ∧ out.length = l.length ∧ W 4294967296 out = W 4294967296 l / v := by
 obtain ⟨h1, h2, h3, h4⟩ := short1 l v hb hb2 ho l.length (0, List.replicate l.length 0) (Nat.le_refl _) (Ok.zeros (by decide) _) (by simp) (fun p _ => zeros_getD _ _) (by simp [W]) (by simp [W, W_zeros])
 refine ⟨_, ?_, h3, h4, h2⟩
 refine (top_call ..).trans ?_
 show H.shortF (l, (v : Int)) = _
 unfold H.shortF
 have hm := Nat.mod_lt (W 4294967296 l) hb
 rw [cT (by simp; omega)]
 unfold H.shortEnd H.shortSt
 rw [h1]
 generalize W 4294967296 l % v = R at hm ⊢
 rw [show ((R : Nat) : Int) % 4294967296 = (R : Int) by omega]
end Go.Proofs.YtgnkkanhjghhfaaGreatDoor.P
namespace Go.Proofs.YtgnkkanhjghhfaaGreatDoor.P
open Go Go.Proofs.YtgnkkanhjghhfaaGreatDoor.K Go.Proofs.YtgnkkanhjghhfaaGreatDoor.C
theorem bits_or_comm (k : IntKind) (x y : Int) : Go.bits .or k x y = Go.bits .or k y x := by simp only [Go.bits, BitVec.or_comm]
theorem W_digit {B : Nat} (hB : 0 < B) {l : List Int} (ho : Ok B l) : ∀ i, (l.getD i 0).toNat = W B l / B ^ i % B := by
 induction l with
 | nil => intro i; simp [W]
 | cons a l ih =>
  intro i
  have ha := ho a (List.mem_cons_self ..)
  cases i with
  | zero => simp only [List.getD_cons_zero, W, Nat.pow_zero, Nat.div_one]; rw [Nat.add_mul_mod_self_left, Nat.mod_eq_of_lt (by omega)]
  | succ i => rw [List.getD_cons_succ, ih (fun x hx => ho x (List.mem_cons_of_mem _ hx)) i, W, Nat.pow_succ', ← Nat.div_div_eq_div_mul, Nat.add_mul_div_left _ _ hB, Nat.div_eq_of_lt (a := a.toNat) (by omega), Nat.zero_add]
theorem tkset (out : List Int) (i : Nat) (v : Int) : (out.set i v).take i = out.take i := by rw [List.take_set, List.set_eq_of_length_le (by simp; omega)]
theorem W_tkset (B : Nat) (out : List Int) (i v : Nat) (h : i < out.length) : W B ((out.set i (v : Int)).take (i + 1)) = W B (out.take i) + B ^ i * v := by
 rw [W_take, tkset, getD_set_self _ _ _ h]; rfl
theorem shift_step (P w c u y s v c' B : Nat) (h : w + P * c = u * s) (hv : y * s + c = B * c' + v) : w + P * v + P * B * c' = (u + P * y) * s := by
 have : P * (y * s + c) = P * (B * c' + v) := by rw [hv]
 grind
theorem pw64 (n : Nat) (h : n ≤ 64) : (2 : Int) ^ min (n : Int).toNat IntKind.u64.bits = ((2 ^ n : Nat) : Int) := by
 rw [Int.toNat_natCast, Nat.min_eq_left (by simpa [IntKind.bits] using h)]; simp
theorem divShift1 (l : List Int) (ho : Ok 4294967296 l) (hl : l.length ≤ 1000000000) (s : Nat) (hs : s < 32) : ∀ (m i c : Nat) (out : List Int), i + m = l.length → out.length = l.length + 1 → Ok 4294967296 out → c < 2 ^ s →
  W 4294967296 (out.take i) + 4294967296 ^ i * c = W 4294967296 (l.take i) * 2 ^ s → ∃ r, divide_limbs_shifted_1 l (s : Int) (c : Int) l (l.length : Int) (i : Int) out = some r ∧ r.length = l.length + 1 ∧ Ok 4294967296 r ∧ W 4294967296 r = W 4294967296 l * 2 ^ s
 | 0, i, c, out, hi, hol, hoo, hc, hw => by
  obtain rfl : i = l.length := by omega
  have hp : 2 ^ s ≤ 2 ^ 31 := Nat.pow_le_pow_right (by decide) (by omega)
  refine ⟨out.set l.length (c : Int), ?_, by simp [hol], hoo.set _ (by omega) (by omega), ?_⟩
  ·rw [divide_limbs_shifted_1_eq, cF (decide_eq_false (by omega)), cT (ix (by omega)), Int.toNat_natCast, wrapU32 (by omega) (by omega)]
  ·rw [← W_all 4294967296 (out.set l.length (c : Int)) (l.length + 1) (by simp [hol]), W_tkset _ _ _ _ (by omega), hw, List.take_length]
 | m + 1, i, c, out, hi, hol, hoo, hc, hw => by
  have hp : 2 ^ s ≤ 2 ^ 31 := Nat.pow_le_pow_right (by decide) (by omega)
  have hx := ho.getD (by decide) i
  have n0 : l.getD i 0 = ((l.getD i 0).toNat : Int) := by omega
  have hpw := pw64 s (by omega)
  have hmod : (((2 ^ s : Nat) : Int)) = 2 ^ s := by simp
  generalize hy : (l.getD i 0).toNat = y at n0
  have hys : y * 2 ^ s ≤ 4294967295 * 2 ^ s := Nat.mul_le_mul_right _ (by omega)
  have e1 : bitop .or .u64 (IntKind.u64.wrap ((IntKind.u64.wrap (l.getD i 0)) * 2 ^ min (s : Int).toNat IntKind.u64.bits)) (c : Int) = ((y * 2 ^ s + c : Nat) : Int) := by
   rw [n0, wrapU64 (n := (y : Int)) (by omega) (by omega), hpw, ← Int.natCast_mul, wrapU64 (by omega) (by omega), or_u64 _ _ s (by omega) (by rw [← hmod, Int.natCast_mul]; exact Int.mul_emod_left ..) (by omega) (by omega) (by rw [← hmod]; omega) (by omega)]
   omega
  obtain ⟨r, h, hr⟩ := divShift1 l ho hl s hs m (i + 1) ((y * 2 ^ s + c) / 4294967296) (out.set i (((y * 2 ^ s + c) % 4294967296 : Nat) : Int)) (by omega) (by simp [hol]) (hoo.set _ (by omega) (by omega)) (by omega) (by
   rw [W_tkset _ _ _ _ (by omega), W_take, hy, Nat.pow_succ]
   exact shift_step (4294967296 ^ i) _ c _ y (2 ^ s) ((y * 2 ^ s + c) % 4294967296) ((y * 2 ^ s + c) / 4294967296) 4294967296 hw (by omega))
  refine ⟨r, ?_, hr⟩
  rw [divide_limbs_shifted_1_eq, cT (decide_eq_true (by omega)), cT (ix (by omega)), cT (decide_eq_true (by omega)), cT (ix (by omega)), cT (decide_eq_true (by decide)), Int.toNat_natCast, e1, p32, fd (by omega), wS (by omega), mod_u32,
   show ((y * 2 ^ s + c : Nat) : Int) / 4294967296 = (((y * 2 ^ s + c) / 4294967296 : Nat) : Int) by omega, show ((y * 2 ^ s + c : Nat) : Int) % 4294967296 = (((y * 2 ^ s + c) % 4294967296 : Nat) : Int) by omega]
  exact h
theorem divShift (l : List Int) (ho : Ok 4294967296 l) (hl : l.length ≤ 1000000000) (s : Nat) (hs : s < 32) : ∃ r, divide_limbs_shifted l (s : Int) = some r ∧ r.length = l.length + 1 ∧ Ok 4294967296 r ∧ W 4294967296 r = W 4294967296 l * 2 ^ s := by
 obtain ⟨r, h, hr⟩ := divShift1 l ho hl s hs l.length 0 0 (List.replicate (l.length + 1) 0) (Nat.zero_add _) (by simp) (Ok.zeros (by decide) _) (Nat.two_pow_pos s) (by simp [W])
 refine ⟨r, ?_, hr⟩
 rw [divide_limbs_shifted_eq, wS (by omega), cT (by simp; omega), Int.toNat_natCast]
 exact h
theorem back_digit (T s B t : Nat) (hs : s ≤ 32) (hB : B = 4294967296) : (T % (B * B)) / 2 ^ s % B = T / 2 ^ s % B := by
 have h1 := Nat.div_add_mod T (B * B)
 have h2 : B = 2 ^ s * 2 ^ (32 - s) := by rw [← Nat.pow_add, show s + (32 - s) = 32 by omega, hB]
 generalize T % (B * B) = x at *
 generalize T / (B * B) = t at *
 subst h1
 have : B * B * t + x = x + 2 ^ s * (B * (2 ^ (32 - s) * t)) := by
  have e : B * B * t = B * (2 ^ s * 2 ^ (32 - s)) * t := by rw [← h2]
  rw [e]; grind
 rw [this, Nat.add_mul_div_left _ _ (Nat.two_pow_pos s), Nat.add_mul_mod_self_left]
theorem divBack1 (l : List Int) (ho : Ok 4294967296 l) (hl : l.length ≤ 1000000000) (s : Nat) (hs : s < 32) : ∀ (m i : Nat) (out : List Int), i + m = l.length → out.length = l.length → Ok 4294967296 out →
  W 4294967296 (out.take i) = W 4294967296 l / 2 ^ s % 4294967296 ^ i → ∃ r, divide_limbs_back_1 l (s : Int) (l.length : Int) (i : Int) out = some r ∧ r.length = l.length ∧ Ok 4294967296 r ∧ W 4294967296 r = W 4294967296 l / 2 ^ s
 | 0, i, out, hi, hol, hoo, hw => by
  obtain rfl : i = l.length := by omega
  refine ⟨out, by rw [divide_limbs_back_1_eq, cF (decide_eq_false (by omega))], hol, hoo, ?_⟩
  rw [W_all _ _ _ (by omega), Nat.mod_eq_of_lt (Nat.lt_of_le_of_lt (Nat.div_le_self _ _) (W_lt ho))] at hw
  exact hw
 | m + 1, i, out, hi, hol, hoo, hw => by
  have hx := ho.getD (by decide) i
  have hx1 := ho.getD (by decide) (i + 1)
  have d0 := W_digit (by decide) ho i
  have d1 := W_digit (by decide) ho (i + 1)
  have n0 : l.getD i 0 = ((l.getD i 0).toNat : Int) := by omega
  have n1 : l.getD (i + 1) 0 = ((l.getD (i + 1) 0).toNat : Int) := by omega
  generalize hT : W 4294967296 l / 4294967296 ^ i = T at d0
  have hT1 : W 4294967296 l / 4294967296 ^ (i + 1) = T / 4294967296 := by rw [← hT, Nat.pow_succ, Nat.div_div_eq_div_mul]
  rw [hT1] at d1
  have hx2 : T % (4294967296 * 4294967296) = T % 4294967296 + 4294967296 * (T / 4294967296 % 4294967296) := Nat.mod_mul
  have hp : 1 ≤ 2 ^ s := Nat.one_le_two_pow
  have hpw := pw64 s (by omega)
  have fin : ∃ r, divide_limbs_back_2 l (s : Int) (i : Int) ((T % (4294967296 * 4294967296) : Nat) : Int) (l.length : Int) (i : Int) out = some r ∧ r.length = l.length ∧ Ok 4294967296 r ∧ W 4294967296 r = W 4294967296 l / 2 ^ s := by
   have hb := back_digit T s 4294967296 0 (by omega) rfl
   have hle : T % (4294967296 * 4294967296) / 2 ^ s ≤ T % (4294967296 * 4294967296) := Nat.div_le_self _ _
   obtain ⟨r, h, hr⟩ := divBack1 l ho hl s hs m (i + 1) (out.set i ((T / 2 ^ s % 4294967296 : Nat) : Int)) (by omega) (by simp [hol]) (hoo.set _ (by omega) (by omega)) (by
    rw [W_tkset _ _ _ _ (by omega), hw, Nat.mod_pow_succ, Nat.div_div_eq_div_mul (W 4294967296 l), Nat.mul_comm (2 ^ s), ← Nat.div_div_eq_div_mul, hT])
   refine ⟨r, ?_, hr⟩
   rw [divide_limbs_back_2_eq, cT (decide_eq_true (by omega)), cT (ix (by omega)), hpw, fd (by omega), ← Int.natCast_ediv, Int.toNat_natCast, mod_u32, wS (by omega), show ((T % (4294967296 * 4294967296) / 2 ^ s : Nat) : Int) % 4294967296 = ((T / 2 ^ s % 4294967296 : Nat) : Int) by omega]
   exact h
  obtain ⟨r, h, hr⟩ := fin
  refine ⟨r, ?_, hr⟩
  rw [divide_limbs_back_1_eq, cT (decide_eq_true (by omega)), cT (ix (by omega)), wS (by omega)]
  by_cases hlast : i + 1 < l.length
  ·rw [cT (decide_eq_true (by omega)), cT (ix hlast), cT (decide_eq_true (by decide)), Int.toNat_natCast, Int.toNat_natCast, p32]
   have e : bitop .or .u64 (IntKind.u64.wrap (l.getD i 0)) (IntKind.u64.wrap (IntKind.u64.wrap (l.getD (i + 1) 0) * 4294967296)) = ((T % (4294967296 * 4294967296) : Nat) : Int) := by
    rw [bitop_or, bits_or_comm, ← bitop_or, n0, n1, wrapU64 (n := (((l.getD i 0).toNat : Nat) : Int)) (by omega) (by omega), wrapU64 (n := (((l.getD (i + 1) 0).toNat : Nat) : Int)) (by omega) (by omega), wrapU64 (by omega) (by omega), or_u64 _ _ 32 (by omega) (by omega) (by omega) (by omega) (by omega) (by omega)]
    omega
   rw [e]
   exact h
  ·have hz : T / 4294967296 = 0 := by rw [← hT1]; exact Nat.div_eq_of_lt (by have := W_lt ho; rwa [show l.length = i + 1 by omega] at this)
   rw [cF (decide_eq_false (by omega)), Int.toNat_natCast, n0, wrapU64 (by omega) (by omega), show ((l.getD i 0).toNat : Int) = ((T % (4294967296 * 4294967296) : Nat) : Int) by omega]
   exact h
theorem divBack (l : List Int) (ho : Ok 4294967296 l) (hl : l.length ≤ 1000000000) (s : Nat) (hs : s < 32) : ∃ r, divide_limbs_back l (s : Int) = some r ∧ r.length = l.length ∧ Ok 4294967296 r ∧ W 4294967296 r = W 4294967296 l / 2 ^ s := by
 obtain ⟨r, h, hr⟩ := divBack1 l ho hl s hs l.length 0 (List.replicate l.length 0) (Nat.zero_add _) (by simp) (Ok.zeros (by decide) _) (by simp [W, Nat.mod_one])
 refine ⟨r, ?_, hr⟩
 rw [divide_limbs_back_eq, cT (by simp; omega), Int.toNat_natCast]
 exact h
theorem guess1 (third high low x : Nat) (h3 : third < 4294967296) (hh : high < 4294967296) (hh1 : 2147483648 ≤ high) (hlow : low < 4294967296) (hx : x < high * 4294967296 + 4294967296) : ∀ (q r : Nat), q * high + r = x → r < 4294967296 →
  min 4294967295 ((x * 4294967296 + third) / (high * 4294967296 + low)) ≤ q → q ≤ 4294967297 → divide_guess_1 (third : Int) (high : Int) (low : Int) (q : Int) (r : Int) = some ((min 4294967295 ((x * 4294967296 + third) / (high * 4294967296 + low)) : Nat) : Int)
 | q, r, hq, hr, hm, hb => by
  have hv : 0 < high * 4294967296 + low := by omega
  have le1 : ∀ p : Nat, p ≤ (x * 4294967296 + third) / (high * 4294967296 + low) ↔ p * high * 4294967296 + p * low ≤ x * 4294967296 + third := fun p => by
   rw [Nat.le_div_iff_mul_le hv, Nat.mul_add, Nat.mul_assoc]
  generalize hM : (x * 4294967296 + third) / (high * 4294967296 + low) = M at *
  have hor : bitop .or .u64 (IntKind.u64.wrap ((r : Int) * 2 ^ min 32 IntKind.u64.bits)) (third : Int) = ((r * 4294967296 + third : Nat) : Int) := by
   rw [p32, wrapU64 (by omega) (by omega), or_u64 _ _ 32 (by omega) (by omega) (by omega) (by omega) (by omega) (by omega)]; omega
  have stay : q ≤ M → q ≤ 4294967295 → (some (q : Int)) = some ((min 4294967295 M : Nat) : Int) := fun h1 h2 => by congr 1; omega
  have hqM := le1 q
  have go : (4294967295 < q ∨ M < q) → divide_guess_2 (third : Int) (high : Int) (low : Int) (q : Int) (r : Int) true = some ((min 4294967295 M : Nat) : Int) := by
   intro ht
   match q with
   | 0 => omega
   | q + 1 =>
    have ha : IntKind.u64.wrap ((r : Int) + (high : Int)) = ((r + high : Nat) : Int) := by rw [wrapU64 (by omega) (by omega)]; omega
    have hs : IntKind.u64.wrap (((q + 1 : Nat) : Int) - 1) = (q : Int) := by rw [wrapU64 (by omega) (by omega)]; omega
    have hq1 : q * high + (r + high) = x := by rw [Nat.succ_mul] at hq; omega
    rw [divide_guess_2_eq, cond_true, cT (decide_eq_true (by decide)), ha, hs, p32, fd (by omega)]
    by_cases hB : 4294967296 ≤ r + high
    ·rw [cT (decide_eq_true (by omega))]
     have hq2 : q ≤ 4294967295 := by
      rcases Nat.lt_or_ge 4294967295 q with h | h
      ·have := Nat.mul_le_mul_right high (show 4294967296 ≤ q from h)
       omega
      ·exact h
     have h4 : q * low ≤ 4294967295 * low := Nat.mul_le_mul_right _ hq2
     have := (le1 q).2 (by omega)
     congr 1
     omega
    ·rw [cF (decide_eq_false (by omega))]
     rw [← hM]
     exact guess1 third high low x h3 hh hh1 hlow hx q (r + high) hq1 (by omega) (by rw [hM]; omega) (by omega)
  rw [divide_guess_1_eq, cT (decide_eq_true (by decide)), p32, fd (by omega)]
  by_cases hbig : 4294967296 ≤ q
  ·rw [cT (decide_eq_true (by omega))]
   exact go (.inl (by omega))
  ·have hql : q * low ≤ 4294967295 * low := Nat.mul_le_mul_right _ (by omega)
   rw [cF (decide_eq_false (by omega)), cT (decide_eq_true (by decide)), ← p32, hor, ← Int.natCast_mul, wrapU64 (by omega) (by omega)]
   by_cases ht : r * 4294967296 + third < q * low
   ·rw [decide_eq_true (show ((q * low : Nat) : Int) > ((r * 4294967296 + third : Nat) : Int) by omega)]
    exact go (.inr (by
     rcases Nat.lt_or_ge M q with h | h
     ·exact h
     ·have := hqM.1 h; omega))
   ·rw [decide_eq_false (show ¬ ((q * low : Nat) : Int) > ((r * 4294967296 + third : Nat) : Int) by omega), divide_guess_2_eq, cond_false]
    exact stay (hqM.2 (by omega)) (by omega)
theorem divGuess (top next third high low : Nat) (h1 : top ≤ high) (h2 : next < 4294967296) (h3 : third < 4294967296) (hh : high < 4294967296) (hh1 : 2147483648 ≤ high) (hlow : low < 4294967296) :
  divide_guess (top : Int) (next : Int) (third : Int) (high : Int) (low : Int) = some ((min 4294967295 (((top * 4294967296 + next) * 4294967296 + third) / (high * 4294967296 + low)) : Nat) : Int) := by
 have hor : bitop .or .u64 (IntKind.u64.wrap ((top : Int) * 2 ^ min 32 IntKind.u64.bits)) (next : Int) = ((top * 4294967296 + next : Nat) : Int) := by
  rw [p32, wrapU64 (by omega) (by omega), or_u64 _ _ 32 (by omega) (by omega) (by omega) (by omega) (by omega) (by omega)]; omega
 have hx : top * 4294967296 + next < high * 4294967296 + 4294967296 := by omega
 obtain ⟨x, hxe⟩ : ∃ x, x = top * 4294967296 + next := ⟨_, rfl⟩
 rw [← hxe] at hor hx ⊢
 have hd := Nat.div_add_mod x high
 have hm := Nat.mod_lt x (show 0 < high by omega)
 have hq : x / high < 4294967298 := (Nat.div_lt_iff_lt_mul (by omega)).2 (by omega)
 have hM : (x * 4294967296 + third) / (high * 4294967296 + low) ≤ x / high := by
  refine Nat.lt_succ_iff.1 ((Nat.div_lt_iff_lt_mul (by omega)).2 ?_)
  rw [Nat.succ_mul, Nat.mul_add, ← Nat.mul_assoc, Nat.mul_comm (x / high) high]
  omega
 have hz : (!decide ((high : Int) = 0)) = true := by rw [decide_eq_false (by omega)]; rfl
 have e1 : (x : Int).tdiv (high : Int) = ((x / high : Nat) : Int) := by rw [Int.tdiv_eq_ediv_of_nonneg (by omega), ← Int.natCast_ediv]
 have e2 : (x : Int).tmod (high : Int) = ((x % high : Nat) : Int) := by rw [Int.tmod_eq_emod_of_nonneg (by omega), ← Int.natCast_emod]
 have hg := guess1 third high low x h3 hh hh1 hlow hx (x / high) (x % high) (by rw [Nat.mul_comm]; exact hd) (Nat.lt_trans hm hh) (Nat.le_trans (Nat.min_le_right ..) hM) (Nat.le_of_lt_succ hq)
 rw [divide_guess_eq, cT (decide_eq_true (by decide)), cT hz, cT hz, hor, e1, e2]
 generalize x / high = q at hg hq
 rw [wrapU64 (by omega) (by omega)]
 exact hg
theorem knuth (P u3 U' v2 V' : Nat) (hU : U' < P) (hV : V' < P) (hlt : u3 * P + U' < (v2 * P + V') * 4294967296) (hv : 4294967296 ≤ v2) :
  (u3 * P + U') / (v2 * P + V') ≤ min 4294967295 (u3 / v2) ∧ min 4294967295 (u3 / v2) ≤ (u3 * P + U') / (v2 * P + V') + 1 := by
 have hP : 0 < P := by omega
 have hpos : 0 < v2 * P + V' := Nat.lt_of_lt_of_le (Nat.mul_pos (by omega) hP) (Nat.le_add_right ..)
 have hQ := Nat.div_mul_le_self (u3 * P + U') (v2 * P + V')
 have hQ2 : (u3 * P + U') / (v2 * P + V') < 4294967296 := (Nat.div_lt_iff_lt_mul hpos).2 (by omega)
 constructor
 ·have : (u3 * P + U') / (v2 * P + V') ≤ u3 / v2 := by
   rw [Nat.le_div_iff_mul_le (by omega)]
   generalize (u3 * P + U') / (v2 * P + V') = Q at *
   have h1 : Q * v2 * P < (u3 + 1) * P := by rw [Nat.mul_add, ← Nat.mul_assoc] at hQ; rw [Nat.succ_mul]; omega
   exact Nat.lt_succ_iff.1 (Nat.lt_of_mul_lt_mul_right h1)
  omega
 ·cases hq : min 4294967295 (u3 / v2) with
  | zero => exact Nat.zero_le _
  | succ p =>
   have h1 : (p + 1) * v2 ≤ u3 := (Nat.le_div_iff_mul_le (by omega)).1 (by omega)
   have : p ≤ (u3 * P + U') / (v2 * P + V') := by
    rw [Nat.le_div_iff_mul_le hpos, Nat.mul_add, ← Nat.mul_assoc]
    have h2 : p * V' ≤ p * P := Nat.mul_le_mul_left _ (by omega)
    have h3 : (p * v2 + p) * P ≤ u3 * P := Nat.mul_le_mul_right _ (by rw [Nat.succ_mul] at h1; omega)
    rw [Nat.add_mul] at h3
    omega
   exact Nat.succ_le_succ this
end Go.Proofs.YtgnkkanhjghhfaaGreatDoor.P
namespace Go.Proofs.YtgnkkanhjghhfaaGreatDoor.P
open Go Go.Proofs.YtgnkkanhjghhfaaGreatDoor.K Go.Proofs.YtgnkkanhjghhfaaGreatDoor.C
theorem W_take_lt {B : Nat} (hB : 0 < B) {l : List Int} (ho : Ok B l) (j : Nat) (h : W B l < B ^ j) : W B (l.take j) = W B l := by
 by_cases hj : j ≤ l.length
 ·have h1 := W_split B l j hj
  rcases Nat.eq_zero_or_pos (W B (l.drop j)) with h0 | h0
  ·rw [h0] at h1; omega
  ·have : B ^ j * 1 ≤ B ^ j * W B (l.drop j) := Nat.mul_le_mul_left _ h0
   omega
 ·rw [List.take_of_length_le (by omega)]
theorem W_above {B : Nat} (hB : 0 < B) {l : List Int} (ho : Ok B l) (j p : Nat) (h : W B l < B ^ j) (hp : j ≤ p) : l.getD p 0 = 0 := by
 have h1 := W_digit hB ho p
 have h2 : B ^ j ≤ B ^ p := Nat.pow_le_pow_right hB hp
 rw [Nat.div_eq_of_lt (by omega), Nat.zero_mod] at h1
 have := ho.getD hB p
 omega
theorem W_lt_above {B : Nat} (hB : 0 < B) {l : List Int} (ho : Ok B l) (j : Nat) (h : ∀ p, j ≤ p → l.getD p 0 = 0) : W B l < B ^ j := by
 have key : ∀ k, W B (l.take (j + k)) = W B (l.take j) := by
  intro k
  induction k with
  | zero => rfl
  | succ k ih => rw [← Nat.add_assoc, W_take, ih, h (j + k) (by omega)]; simp
 have h1 := key l.length
 rw [W_all B l _ (by omega)] at h1
 have h2 := W_lt (ho.take j)
 have h3 : B ^ (l.take j).length ≤ B ^ j := Nat.pow_le_pow_right hB (by simp; omega)
 omega
theorem take_step (P At Bi w w' w0 q m mi c b r v pm c' b' B : Nat) (hP : P = At * Bi) (h : w + At * (q * m) = w0 + P * (c + b)) (hset : w' + P * r = w + P * v) (hp : q * mi + c = B * c' + pm) (hn : v + pm + b = r + B * b') :
  w' + At * (q * (m + Bi * mi)) = w0 + P * B * (c' + b') := by
 subst hP
 have e1 : At * Bi * (q * mi + c) = At * Bi * (B * c' + pm) := by rw [hp]
 have e2 : At * Bi * (v + pm + b) = At * Bi * (r + B * b') := by rw [hn]
 have : w' + At * (q * (m + Bi * mi)) + At * Bi * r + At * Bi * c + At * Bi * b + At * Bi * pm = w0 + At * Bi * B * (c' + b') + At * Bi * r + At * Bi * c + At * Bi * b + At * Bi * pm := by grind
 omega
theorem take_last (P w w' w0 x c b r v neg B : Nat) (h : w + x = w0 + P * (c + b)) (hset : w' + P * r = w + P * v) (hn : v + c + b = r + B * neg) : w' + x = w0 + P * B * neg := by
 have e2 : P * (v + c + b) = P * (r + B * neg) := by rw [hn]
 have : w' + x + P * r + P * c + P * b = w0 + P * B * neg + P * r + P * c + P * b := by grind
 omega
theorem p63 : (2 : Int) ^ min 63 IntKind.u64.bits = 9223372036854775808 := rfl
theorem divTake (m : List Int) (hm : Ok 4294967296 m) (q : Nat) (hq : q < 4294967296) (at_ : Nat) (rest0 out m2 : List Int) (by_ n2 at2 q2 : Int) (hlen : at_ + m.length < rest0.length) (hl : rest0.length ≤ 2000000000) :
  ∀ (k i c b : Nat) (rest : List Int), i + k = m.length → rest.length = rest0.length → Ok 4294967296 rest → c < 4294967296 → b ≤ 1 → (∀ p, at_ + i ≤ p → rest.getD p 0 = rest0.getD p 0) →
   W 4294967296 rest + 4294967296 ^ at_ * (q * W 4294967296 (m.take i)) = W 4294967296 rest0 + 4294967296 ^ (at_ + i) * (c + b) →
   ∃ (rest' : List Int) (neg : Nat), rest'.length = rest0.length ∧ Ok 4294967296 rest' ∧ (∀ p, at_ + m.length < p → rest'.getD p 0 = rest0.getD p 0) ∧ neg ≤ 1 ∧
    W 4294967296 rest' + 4294967296 ^ at_ * (q * W 4294967296 m) = W 4294967296 rest0 + 4294967296 ^ (at_ + m.length + 1) * neg ∧
    divide_limbs_long_3 m (q : Int) (at_ : Int) (c : Int) (b : Int) (m.length : Int) (i : Int) rest out m2 by_ n2 at2 q2 =
     cond (decide (neg = 1)) (divide_limbs_long_4 m2 at2 rest' out m2 by_ n2 at2 (IntKind.u64.wrap (q2 - 1)))
      (cond (decide (0 ≤ at2) && decide (at2 < (out.length : Int))) (divide_limbs_long_1 m2 by_ n2 (IntKind.i64.wrap (at2 - 1)) rest' (out.set at2.toNat (IntKind.u32.wrap q2))) none)
 | 0, i, c, b, rest, hi, hr, ho, hc, hb, hsame, hw => by
  obtain rfl : i = m.length := by omega
  have hx := ho.getD (by decide) (at_ + m.length)
  have n0 : rest.getD (at_ + m.length) 0 = ((rest.getD (at_ + m.length) 0).toNat : Int) := by omega
  generalize hy : (rest.getD (at_ + m.length) 0).toNat = r at n0
  have en : IntKind.u64.wrap (IntKind.u64.wrap (IntKind.u64.wrap (r : Int) - (c : Int)) - (b : Int)) = ((r : Int) - c - b) % 18446744073709551616 := by
   rw [wrapU64 (n := (r : Int)) (by omega) (by omega), mod_u64, mod_u64]; omega
  have hset := fun v : Nat => W_set' 4294967296 rest (at_ + m.length) v (by omega)
  simp only [hy] at hset
  rw [List.take_length] at hw
  by_cases hneg : r < c + b
  ·refine ⟨rest.set (at_ + m.length) ((r + 4294967296 - c - b : Nat) : Int), 1, by simp [hr], ho.set _ (by omega) (by omega), fun p hp => by rw [getD_set_ne _ _ _ _ (by omega)]; exact hsame p (by omega), by omega, ?_, ?_⟩
   ·rw [Nat.pow_succ]
    exact take_last (4294967296 ^ (at_ + m.length)) _ _ _ _ c b r (r + 4294967296 - c - b) 1 4294967296 hw (hset _) (by omega)
   ·rw [divide_limbs_long_3_eq, cF (decide_eq_false (by omega)), wA (by omega), cT (ix (by omega)), cT (ix (by omega)), cT (decide_eq_true (by decide)), Int.toNat_natCast, n0, en, p63, fd (by omega), mod_u32]
    have e1 : ((r : Int) - c - b) % 18446744073709551616 / 9223372036854775808 = 1 := by omega
    have e2 : ((r : Int) - c - b) % 18446744073709551616 % 4294967296 = ((r + 4294967296 - c - b : Nat) : Int) := by omega
    rw [e1, e2, cT (by rfl), cT (by rfl)]
  ·refine ⟨rest.set (at_ + m.length) ((r - c - b : Nat) : Int), 0, by simp [hr], ho.set _ (by omega) (by omega), fun p hp => by rw [getD_set_ne _ _ _ _ (by omega)]; exact hsame p (by omega), by omega, ?_, ?_⟩
   ·rw [Nat.pow_succ]
    exact take_last (4294967296 ^ (at_ + m.length)) _ _ _ _ c b r (r - c - b) 0 4294967296 hw (hset _) (by omega)
   ·rw [divide_limbs_long_3_eq, cF (decide_eq_false (by omega)), wA (by omega), cT (ix (by omega)), cT (ix (by omega)), cT (decide_eq_true (by decide)), Int.toNat_natCast, n0, en, p63, fd (by omega), mod_u32]
    have e1 : ((r : Int) - c - b) % 18446744073709551616 / 9223372036854775808 = 0 := by omega
    have e2 : ((r : Int) - c - b) % 18446744073709551616 % 4294967296 = ((r - c - b : Nat) : Int) := by omega
    rw [e1, e2, cF (c := !(decide ((0 : Int) = 0))) (by rfl), cF (c := decide (0 = 1)) (by rfl)]
 | k + 1, i, c, b, rest, hi, hr, ho, hc, hb, hsame, hw => by
  have hx := ho.getD (by decide) (at_ + i)
  have hmx := hm.getD (by decide) i
  have n0 : rest.getD (at_ + i) 0 = ((rest.getD (at_ + i) 0).toNat : Int) := by omega
  have n1 : m.getD i 0 = ((m.getD i 0).toNat : Int) := by omega
  generalize hy : (rest.getD (at_ + i) 0).toNat = r at n0
  generalize hd : (m.getD i 0).toNat = d at n1
  have hqd := le_mul_pred (a := q) (b := d) (B := 4294967296) hq (by omega)
  have ep : IntKind.u64.wrap (IntKind.u64.wrap ((q : Int) * IntKind.u64.wrap (m.getD i 0)) + (c : Int)) = ((q * d + c : Nat) : Int) := by
   rw [n1, wrapU64 (n := (d : Int)) (by omega) (by omega), ← Int.natCast_mul, wrapU64 (n := ((q * d : Nat) : Int)) (by omega) (by omega), wrapU64 (by omega) (by omega)]; omega
  generalize hp : q * d + c = pr at ep
  have hpr : pr < 18446744073709551616 := by omega
  have en : IntKind.u64.wrap (IntKind.u64.wrap (IntKind.u64.wrap (r : Int) - ((pr : Int) % 4294967296)) - (b : Int)) = ((r : Int) - pr % 4294967296 - b) % 18446744073709551616 := by
   rw [wrapU64 (n := (r : Int)) (by omega) (by omega), mod_u64, mod_u64]; omega
  have hset := fun v : Nat => W_set' 4294967296 rest (at_ + i) v (by omega)
  simp only [hy] at hset
  obtain ⟨v, b', hv, hb', hn, e1, e2⟩ : ∃ v b' : Nat, v < 4294967296 ∧ b' ≤ 1 ∧ v + pr % 4294967296 + b = r + 4294967296 * b' ∧ ((r : Int) - pr % 4294967296 - b) % 18446744073709551616 / 9223372036854775808 = (b' : Int) ∧ ((r : Int) - pr % 4294967296 - b) % 18446744073709551616 % 4294967296 = (v : Int) := by
   by_cases hneg : r < pr % 4294967296 + b
   ·exact ⟨r + 4294967296 - pr % 4294967296 - b, 1, by omega, by omega, by omega, by omega, by omega⟩
   ·exact ⟨r - pr % 4294967296 - b, 0, by omega, by omega, by omega, by omega, by omega⟩
  obtain ⟨rest', neg, g1, g2, g3, g4, g5, g6⟩ := divTake m hm q hq at_ rest0 out m2 by_ n2 at2 q2 hlen hl k (i + 1) (pr / 4294967296) b' (rest.set (at_ + i) (v : Int)) (by omega) (by simp [hr]) (ho.set _ (by omega) (by omega)) (by omega) hb'
   (fun p hp => by rw [getD_set_ne _ _ _ _ (by omega)]; exact hsame p (by omega)) (by
    rw [W_take, hd, ← Nat.add_assoc, Nat.pow_succ]
    exact take_step _ (4294967296 ^ at_) (4294967296 ^ i) _ _ _ q _ d c b r v (pr % 4294967296) _ b' 4294967296 (Nat.pow_add ..) hw (hset v) (by omega) hn)
  refine ⟨rest', neg, g1, g2, g3, g4, g5, ?_⟩
  rw [divide_limbs_long_3_eq, cT (decide_eq_true (by omega)), cT (ix (by omega)), cT (decide_eq_true (by decide)), wA (by omega), cT (ix (by omega)), cT (ix (by omega)), cT (decide_eq_true (by decide)), Int.toNat_natCast, Int.toNat_natCast, ep, and_u64w _ (by omega) (by omega), n0, en, p63, p32, fd (by omega), fd (by omega), mod_u32, e1, e2, wS (by omega),
   show (pr : Int) / 4294967296 = ((pr / 4294967296 : Nat) : Int) by omega]
  exact g6
theorem give_step (P At Bi w w' w0 m mi c r v c' B : Nat) (hP : P = At * Bi) (h : w + P * c = w0 + At * m) (hset : w' + P * r = w + P * v) (hn : r + mi + c = B * c' + v) :
  w' + P * B * c' = w0 + At * (m + Bi * mi) := by
 subst hP
 have e1 : At * Bi * (r + mi + c) = At * Bi * (B * c' + v) := by rw [hn]
 have : w' + At * Bi * B * c' + At * Bi * r + At * Bi * c + At * Bi * v = w0 + At * (m + Bi * mi) + At * Bi * r + At * Bi * c + At * Bi * v := by grind
 omega
theorem give_last (P w w' w0 x c r v o B : Nat) (h : w + P * c = w0 + x) (hset : w' + P * r = w + P * v) (hn : r + c = B * o + v) : w' + P * B * o = w0 + x := by
 have e1 : P * (r + c) = P * (B * o + v) := by rw [hn]
 have : w' + P * B * o + P * r + P * c + P * v = w0 + x + P * r + P * c + P * v := by grind
 omega
theorem divGive (m : List Int) (hm : Ok 4294967296 m) (at_ : Nat) (rest0 out m2 : List Int) (by_ n2 at2 q2 : Int) (hlen : at_ + m.length < rest0.length) (hl : rest0.length ≤ 2000000000) :
  ∀ (k i c : Nat) (rest : List Int), i + k = m.length → rest.length = rest0.length → Ok 4294967296 rest → c ≤ 1 → (∀ p, at_ + i ≤ p → rest.getD p 0 = rest0.getD p 0) →
   W 4294967296 rest + 4294967296 ^ (at_ + i) * c = W 4294967296 rest0 + 4294967296 ^ at_ * W 4294967296 (m.take i) →
   ∃ (rest' : List Int) (o : Nat), rest'.length = rest0.length ∧ Ok 4294967296 rest' ∧ (∀ p, at_ + m.length < p → rest'.getD p 0 = rest0.getD p 0) ∧ o ≤ 1 ∧
    W 4294967296 rest' + 4294967296 ^ (at_ + m.length + 1) * o = W 4294967296 rest0 + 4294967296 ^ at_ * W 4294967296 m ∧
    divide_limbs_long_5 m (at_ : Int) (c : Int) (m.length : Int) (i : Int) rest out m2 by_ n2 at2 q2 =
      (cond (decide (0 ≤ at2) && decide (at2 < (out.length : Int))) (divide_limbs_long_1 m2 by_ n2 (IntKind.i64.wrap (at2 - 1)) rest' (out.set at2.toNat (IntKind.u32.wrap q2))) none)
 | 0, i, c, rest, hi, hr, ho, hc, hsame, hw => by
  obtain rfl : i = m.length := by omega
  have hx := ho.getD (by decide) (at_ + m.length)
  have n0 : rest.getD (at_ + m.length) 0 = ((rest.getD (at_ + m.length) 0).toNat : Int) := by omega
  generalize hy : (rest.getD (at_ + m.length) 0).toNat = r at n0
  have en : IntKind.u32.wrap ((r : Int) + IntKind.u32.wrap (c : Int)) = (((r + c) % 4294967296 : Nat) : Int) := by
   rw [wrapU32 (n := (c : Int)) (by omega) (by omega), mod_u32]; omega
  have hset := fun v : Nat => W_set' 4294967296 rest (at_ + m.length) v (by omega)
  simp only [hy] at hset
  rw [List.take_length] at hw
  refine ⟨rest.set (at_ + m.length) (((r + c) % 4294967296 : Nat) : Int), (r + c) / 4294967296, by simp [hr], ho.set _ (by omega) (by omega), fun p hp => by rw [getD_set_ne _ _ _ _ (by omega)]; exact hsame p (by omega), by omega, ?_, ?_⟩
  ·rw [Nat.pow_succ]
   exact give_last (4294967296 ^ (at_ + m.length)) _ _ _ _ c r ((r + c) % 4294967296) _ 4294967296 hw (hset _) (by omega)
  ·rw [divide_limbs_long_5_eq, cF (decide_eq_false (by omega)), wA (by omega), cT (ix (by omega)), cT (ix (by omega)), Int.toNat_natCast, n0, en]
 | k + 1, i, c, rest, hi, hr, ho, hc, hsame, hw => by
  have hx := ho.getD (by decide) (at_ + i)
  have hmx := hm.getD (by decide) i
  have n0 : rest.getD (at_ + i) 0 = ((rest.getD (at_ + i) 0).toNat : Int) := by omega
  have n1 : m.getD i 0 = ((m.getD i 0).toNat : Int) := by omega
  generalize hy : (rest.getD (at_ + i) 0).toNat = r at n0
  generalize hd : (m.getD i 0).toNat = d at n1
  have en : IntKind.u64.wrap (IntKind.u64.wrap (IntKind.u64.wrap (r : Int) + IntKind.u64.wrap (d : Int)) + (c : Int)) = ((r + d + c : Nat) : Int) := by
   rw [wrapU64 (n := (r : Int)) (by omega) (by omega), wrapU64 (n := (d : Int)) (by omega) (by omega), wrapU64 (n := (r : Int) + (d : Int)) (by omega) (by omega), wrapU64 (by omega) (by omega)]; omega
  have hset := W_set' 4294967296 rest (at_ + i) ((r + d + c) % 4294967296) (by omega)
  rw [hy] at hset
  obtain ⟨rest', o, g1, g2, g3, g4, g5, g6⟩ := divGive m hm at_ rest0 out m2 by_ n2 at2 q2 hlen hl k (i + 1) ((r + d + c) / 4294967296) (rest.set (at_ + i) (((r + d + c) % 4294967296 : Nat) : Int)) (by omega) (by simp [hr]) (ho.set _ (by omega) (by omega)) (by omega)
    (fun p hp => by rw [getD_set_ne _ _ _ _ (by omega)]; exact hsame p (by omega)) (by
     rw [W_take, hd, ← Nat.add_assoc, Nat.pow_succ]
     exact give_step _ (4294967296 ^ at_) (4294967296 ^ i) _ _ _ _ d c r ((r + d + c) % 4294967296) _ 4294967296 (Nat.pow_add ..) hw hset (by omega))
  refine ⟨rest', o, g1, g2, g3, g4, g5, ?_⟩
  rw [divide_limbs_long_5_eq, cT (decide_eq_true (by omega)), wA (by omega), cT (ix (by omega)), cT (ix (by omega)), cT (ix (by omega)), cT (decide_eq_true (by decide)), Int.toNat_natCast, Int.toNat_natCast, n0, n1, en, p32, fd (by omega), mod_u32, wS (by omega),
   show ((r + d + c : Nat) : Int) / 4294967296 = (((r + d + c) / 4294967296 : Nat) : Int) by omega, show ((r + d + c : Nat) : Int) % 4294967296 = (((r + d + c) % 4294967296 : Nat) : Int) by omega]
  exact g6
end Go.Proofs.YtgnkkanhjghhfaaGreatDoor.P
namespace Go.Proofs.YtgnkkanhjghhfaaGreatDoor.P
open Go Go.Proofs.YtgnkkanhjghhfaaGreatDoor.K Go.Proofs.YtgnkkanhjghhfaaGreatDoor.C
theorem div_of_sub (U R V E : Nat) (hV : 0 < V) (h : U = R + V * E) : U / V = R / V + E ∧ U % V = R % V := by
 subst h
 exact ⟨Nat.add_mul_div_left _ _ hV, Nat.add_mul_mod_self_left ..⟩
theorem le_of_mul_lt {q Q D U : Nat} (h : q * D ≤ U) (h2 : U < (Q + 1) * D) : q ≤ Q := by
 have : q * D < (Q + 1) * D := Nat.lt_of_le_of_lt h h2
 exact Nat.lt_succ_iff.1 (Nat.lt_of_mul_lt_mul_right this)
theorem top_le (top next third high low P U' V' : Nat) (h : ((top * 4294967296 + next) * 4294967296 + third) * P + U' < ((high * 4294967296 + low) * P + V') * 4294967296) (hV : V' < P) (hlow : low < 4294967296) : top ≤ high := by
 have h1 : ((top * 4294967296 + next) * 4294967296 + third) * P < ((high * 4294967296 + low + 1) * 4294967296) * P := by
  have e : ((high * 4294967296 + low + 1) * 4294967296) * P = ((high * 4294967296 + low) * P + P) * 4294967296 := by rw [Nat.mul_right_comm, Nat.succ_mul]
  rw [e]; omega
 have := Nat.lt_of_mul_lt_mul_right h1
 omega
theorem eU_plain (U P t n p B : Nat) : U + P * t + P * B * n + P * B * B * p = ((p * B + n) * B + t) * P + U := by grind
theorem eD_plain (V Pk Pn l h B : Nat) : (V + Pn * l + Pn * B * h) * Pk = (h * B + l) * (Pk * Pn) + V * Pk := by grind
set_option maxHeartbeats 1000000 in
theorem divDigit (m rest : List Int) (hm : Ok 4294967296 m) (n k : Nat) (hmn : m.length = n + 2) (hh : 2147483648 ≤ (m.getD (n + 1) 0).toNat) (ho : Ok 4294967296 rest) (hr : k + n + 2 < rest.length) (hw : W 4294967296 rest < W 4294967296 m * 4294967296 ^ (k + 1)) :
  ∃ q : Nat, q < 4294967296 ∧ divide_guess (rest.getD (k + n + 2) 0) (rest.getD (k + n + 1) 0) (rest.getD (k + n) 0) (m.getD (n + 1) 0) (m.getD n 0) = some (q : Int) ∧
   W 4294967296 rest / (W 4294967296 m * 4294967296 ^ k) ≤ q ∧ q ≤ W 4294967296 rest / (W 4294967296 m * 4294967296 ^ k) + 1 ∧ W 4294967296 rest < 4294967296 ^ (k + n + 3) ∧ 0 < W 4294967296 m * 4294967296 ^ k := by
 have hVlt := W_lt hm
 rw [hmn] at hVlt
 have d0 := ho.getD (by decide) (k + n)
 have d1 := ho.getD (by decide) (k + n + 1)
 have d2 := ho.getD (by decide) (k + n + 2)
 have m0 := hm.getD (by decide) n
 have m1 := hm.getD (by decide) (n + 1)
 have hUT : W 4294967296 rest < 4294967296 ^ (k + n + 3) := by
  refine Nat.lt_of_lt_of_le hw ?_
  rw [show k + n + 3 = (n + 2) + (k + 1) by omega, Nat.pow_add 4294967296 (n + 2) (k + 1)]
  exact Nat.mul_le_mul_right _ (Nat.le_of_lt hVlt)
 have hUs := W_take_lt (by decide) ho (k + n + 3) hUT
 rw [W_take, W_take, W_take] at hUs
 have hVs := W_all 4294967296 m (n + 2) (by omega)
 rw [W_take, W_take] at hVs
 have hU' := W_lt (ho.take (k + n))
 rw [List.length_take, Nat.min_eq_left (by omega)] at hU'
 have hV' := W_lt (hm.take n)
 rw [List.length_take, Nat.min_eq_left (by omega)] at hV'
 have hwD : W 4294967296 rest < W 4294967296 m * 4294967296 ^ k * 4294967296 := by rw [Nat.pow_succ, ← Nat.mul_assoc] at hw; exact hw
 have b0 : rest.getD (k + n) 0 = ((rest.getD (k + n) 0).toNat : Int) := by omega
 have b1 : rest.getD (k + n + 1) 0 = ((rest.getD (k + n + 1) 0).toNat : Int) := by omega
 have b2 : rest.getD (k + n + 2) 0 = ((rest.getD (k + n + 2) 0).toNat : Int) := by omega
 have c0 : m.getD n 0 = ((m.getD n 0).toNat : Int) := by omega
 have c1 : m.getD (n + 1) 0 = ((m.getD (n + 1) 0).toNat : Int) := by omega
 have t1 : (rest.getD (k + n + 1) 0).toNat < 4294967296 := by omega
 have t0 : (rest.getD (k + n) 0).toNat < 4294967296 := by omega
 have l0 : (m.getD n 0).toNat < 4294967296 := by omega
 have l1 : (m.getD (n + 1) 0).toNat < 4294967296 := by omega
 clear d0 d1 d2 m0 m1
 rw [b0, b1, b2, c0, c1]
 clear b0 b1 b2 c0 c1
 generalize W 4294967296 (rest.take (k + n)) = U' at *
 generalize W 4294967296 (m.take n) = V' at *
 generalize (rest.getD (k + n) 0).toNat = third at *
 generalize (rest.getD (k + n + 1) 0).toNat = next at *
 generalize (rest.getD (k + n + 2) 0).toNat = top at *
 generalize (m.getD n 0).toNat = low at *
 generalize (m.getD (n + 1) 0).toNat = high at *
 generalize W 4294967296 rest = U at *
 generalize W 4294967296 m = V at *
 have eP : 4294967296 ^ (k + n) = 4294967296 ^ k * 4294967296 ^ n := Nat.pow_add ..
 have eU : U = ((top * 4294967296 + next) * 4294967296 + third) * 4294967296 ^ (k + n) + U' := by
  rw [← hUs, show 4294967296 ^ (k + n + 2) = 4294967296 ^ (k + n) * 4294967296 * 4294967296 by rw [Nat.pow_succ, Nat.pow_succ], show 4294967296 ^ (k + n + 1) = 4294967296 ^ (k + n) * 4294967296 by rw [Nat.pow_succ]]
  exact eU_plain ..
 have eD : V * 4294967296 ^ k = (high * 4294967296 + low) * 4294967296 ^ (k + n) + V' * 4294967296 ^ k := by
  rw [← hVs, show 4294967296 ^ (n + 1) = 4294967296 ^ n * 4294967296 by rw [Nat.pow_succ], eP]
  exact eD_plain ..
 have hV'' : V' * 4294967296 ^ k < 4294967296 ^ (k + n) := by
  rw [eP, Nat.mul_comm]
  exact Nat.mul_lt_mul_of_pos_left hV' (Nat.pow_pos (by decide))
 have hPpos : 0 < 4294967296 ^ (k + n) := Nat.pow_pos (by decide)
 clear hVs hUs hw hV' eP hVlt
 have hlt := hwD
 rw [eU, eD] at hlt
 rw [eD, eU]
 rw [eU] at hUT
 clear eU eD hwD
 generalize V' * 4294967296 ^ k = V'' at *
 generalize 4294967296 ^ (k + n) = P at *
 have htop := top_le top next third high low _ U' _ hlt hV'' l0
 have hk1 := knuth P _ U' (high * 4294967296 + low) V'' hU' hV'' hlt (by omega)
 have hg := divGuess top next third high low htop t1 t0 l1 hh l0
 exact ⟨_, Nat.lt_of_le_of_lt (Nat.min_le_left _ _) (by decide), hg, hk1.1, hk1.2, hUT, Nat.lt_of_lt_of_le (Nat.mul_pos (by omega) hPpos) (Nat.le_add_right ..)⟩
set_option maxHeartbeats 1000000 in
theorem divLong1 (m : List Int) (hm : Ok 4294967296 m) (n : Nat) (hmn : m.length = n + 2) (hn : n ≤ 900000000) (hh : 2147483648 ≤ (m.getD (n + 1) 0).toNat) (s : Nat) (hs : s < 32) (Lr : Nat) (hL : Lr ≤ 2000000000) : ∀ (k : Nat) (rest out : List Int),
  k + (n + 2) ≤ Lr → rest.length = Lr → Ok 4294967296 rest → Ok 4294967296 out → k ≤ out.length → out.length ≤ Lr → (∀ p, p < k → out.getD p 0 = 0) → W 4294967296 rest < W 4294967296 m * 4294967296 ^ k →
  ∃ o r, divide_limbs_long_1 m (s : Int) ((n + 2 : Nat) : Int) ((k : Int) - 1) rest out = some (o, r) ∧ Ok 4294967296 o ∧ o.length = out.length ∧ Ok 4294967296 r ∧ r.length = n + 2 ∧ W 4294967296 o = W 4294967296 out + W 4294967296 rest / W 4294967296 m ∧ W 4294967296 r = W 4294967296 rest % W 4294967296 m / 2 ^ s
 | 0, rest, out, hk, hr, ho, hoo, hko, hol, hz, hw => by
  have hVlt := W_lt hm
  rw [hmn] at hVlt
  have hw' : W 4294967296 rest < W 4294967296 m := by simpa using hw
  obtain ⟨r, h, h1, h2, h3⟩ := divBack (rest.take (n + 2)) (ho.take _) (by simp; omega) s hs
  refine ⟨out, r, ?_, hoo, rfl, h2, by rw [h1]; simp; omega, by rw [Nat.div_eq_of_lt hw']; rfl, ?_⟩
  ·rw [divide_limbs_long_1_eq, cF (decide_eq_false (by omega)), cT (inC (by omega)), List.drop_zero, Int.toNat_natCast, Nat.sub_zero, h]; rfl
  ·rw [h3, W_take_lt (by decide) ho _ (by omega), Nat.mod_eq_of_lt hw']
 | k + 1, rest, out, hk, hr, ho, hoo, hko, hol, hz, hw => by
  obtain ⟨q, hq, hg, hk1a, hk1b, hUT, hDpos⟩ := divDigit m rest hm n k hmn hh ho (by omega) hw
  have hwD : W 4294967296 rest < W 4294967296 m * 4294967296 ^ k * 4294967296 := by rw [Nat.pow_succ, ← Nat.mul_assoc] at hw; exact hw
  have d0 := ho.getD (by decide) (k + n)
  have d1 := ho.getD (by decide) (k + n + 1)
  have d2 := ho.getD (by decide) (k + n + 2)
  have m0 := hm.getD (by decide) n
  have m1 := hm.getD (by decide) (n + 1)
  have hVpos : 0 < W 4294967296 m := Nat.pos_of_mul_pos_right hDpos
  have hQ1 := Nat.div_mul_le_self (W 4294967296 rest) (W 4294967296 m * 4294967296 ^ k)
  have hQ2 : W 4294967296 rest < (W 4294967296 rest / (W 4294967296 m * 4294967296 ^ k) + 1) * (W 4294967296 m * 4294967296 ^ k) := by
   have h1 := Nat.div_add_mod (W 4294967296 rest) (W 4294967296 m * 4294967296 ^ k)
   have h2 := Nat.mod_lt (W 4294967296 rest) hDpos
   rw [Nat.succ_mul, Nat.mul_comm (W 4294967296 rest / _)]
   omega
  generalize W 4294967296 rest / (W 4294967296 m * 4294967296 ^ k) = Q at *
  have hlr : k + m.length < rest.length := by omega
  have done : ∀ R : List Int, R.length = rest.length → Ok 4294967296 R → W 4294967296 R + Q * (W 4294967296 m * 4294967296 ^ k) = W 4294967296 rest → ∃ o r, (cond (decide (0 ≤ (k : Int)) && decide ((k : Int) < (out.length : Int))) (divide_limbs_long_1 m (s : Int) ((n + 2 : Nat) : Int) (IntKind.i64.wrap ((k : Int) - 1)) R (out.set (k : Int).toNat (IntKind.u32.wrap (Q : Int)))) none) = some (o, r) ∧
    Ok 4294967296 o ∧ o.length = out.length ∧ Ok 4294967296 r ∧ r.length = n + 2 ∧ W 4294967296 o = W 4294967296 out + W 4294967296 rest / W 4294967296 m ∧ W 4294967296 r = W 4294967296 rest % W 4294967296 m / 2 ^ s := by
   intro R hRl hRo hRw
   have hQB : Q < 4294967296 := by omega
   obtain ⟨o, r, g, g1, g2, g3, g4, g5, g6⟩ := divLong1 m hm n hmn hn (by omega) s hs Lr hL k R (out.set k (Q : Int)) (by omega) (by omega) hRo (hoo.set _ (by omega) (by omega)) (by simp; omega) (by simp; omega)
    (fun p hp => by rw [getD_set_ne _ _ _ _ (by omega)]; exact hz p (by omega)) (by rw [Nat.succ_mul] at hQ2; omega)
   have hd := div_of_sub (W 4294967296 rest) (W 4294967296 R) (W 4294967296 m) (4294967296 ^ k * Q) hVpos (by rw [← hRw, Nat.mul_left_comm Q, Nat.mul_comm Q])
   have hset := W_set' 4294967296 out k Q (by omega)
   rw [hz k (by omega)] at hset
   simp only [Int.toNat_zero, Nat.mul_zero, Nat.add_zero] at hset
   refine ⟨o, r, ?_, g1, by rw [g2]; simp, g3, g4, by rw [g5, hset, hd.1]; omega, by rw [g6, hd.2]⟩
   rw [cT (ix (by omega)), wrap64 (by omega) (by omega), Int.toNat_natCast, wrapU32 (by omega) (by omega)]
   exact g
  have above : ∀ R : List Int, Ok 4294967296 R → (∀ p, k + m.length < p → R.getD p 0 = rest.getD p 0) → W 4294967296 R < 4294967296 ^ (k + m.length + 1) := fun R hRo hR =>
   W_lt_above (by decide) hRo _ fun p hp => by rw [hR p (by omega)]; exact W_above (by decide) ho (k + n + 3) p hUT (by omega)
  obtain ⟨rest', neg, t1, t2, t3, t4, t5, t6⟩ := divTake m hm q hq k rest out m (s : Int) ((n + 2 : Nat) : Int) (k : Int) (q : Int) hlr (by omega) m.length 0 0 0 rest (Nat.zero_add _) rfl ho (by omega) (by omega) (fun p _ => rfl) (by simp [W])
  have t6' : divide_limbs_long_3 m (q : Int) (k : Int) 0 0 (m.length : Int) 0 rest out m (s : Int) ((n + 2 : Nat) : Int) (k : Int) (q : Int) = _ := t6
  have a1 := above rest' t2 t3
  rw [show 4294967296 ^ k * (q * W 4294967296 m) = q * (W 4294967296 m * 4294967296 ^ k) by rw [Nat.mul_left_comm, Nat.mul_comm (4294967296 ^ k)]] at t5
  rw [divide_limbs_long_1_eq, show (((k + 1 : Nat) : Int) - 1) = (k : Int) by omega, cT (decide_eq_true (by omega)), wA (by omega),
   show IntKind.i64.wrap (((k + (n + 2) : Nat) : Int) - 1) = ((k + n + 1 : Nat) : Int) by rw [wrap64 (by omega) (by omega)]; omega,
   show IntKind.i64.wrap (((k + (n + 2) : Nat) : Int) - 2) = ((k + n : Nat) : Int) by rw [wrap64 (by omega) (by omega)]; omega,
   show IntKind.i64.wrap (((n + 2 : Nat) : Int) - 1) = ((n + 1 : Nat) : Int) by rw [wrap64 (by omega) (by omega)]; omega,
   show IntKind.i64.wrap (((n + 2 : Nat) : Int) - 2) = ((n : Nat) : Int) by rw [wrap64 (by omega) (by omega)]; omega,
   cT (ix (by omega)), cT (ix (by omega)), cT (ix (by omega)), cT (ix (by omega)), cT (ix (by omega)), Int.toNat_natCast, Int.toNat_natCast, Int.toNat_natCast, Int.toNat_natCast, Int.toNat_natCast, show k + (n + 2) = k + n + 2 by omega,
   wrapU64 (n := rest.getD (k + n + 2) 0) (by omega) (by omega), wrapU64 (n := rest.getD (k + n + 1) 0) (by omega) (by omega), wrapU64 (n := rest.getD (k + n) 0) (by omega) (by omega), wrapU64 (n := m.getD (n + 1) 0) (by omega) (by omega), wrapU64 (n := m.getD n 0) (by omega) (by omega),
   hg, Option.bind_some, divide_limbs_long_2_eq, t6']
  rcases Nat.lt_or_ge neg 1 with h0 | h1
  ·obtain rfl : neg = 0 := by omega
   rw [cF (decide_eq_false (by omega))]
   rw [Nat.mul_zero, Nat.add_zero] at t5
   have : q ≤ Q := le_of_mul_lt (U := W 4294967296 rest) (by omega) hQ2
   obtain rfl : q = Q := by omega
   exact done rest' (by omega) t2 t5
  ·obtain rfl : neg = 1 := by omega
   rw [cT (decide_eq_true rfl)]
   rw [Nat.mul_one] at t5
   have hqQ : q = Q + 1 := by
    rcases Nat.lt_or_ge Q q with h | h
    ·omega
    ·have := Nat.mul_le_mul_right (W 4294967296 m * 4294967296 ^ k) h
     omega
   obtain ⟨R, o, v1, v2, v3, v4, v5, v6⟩ := divGive m hm k rest' out m (s : Int) ((n + 2 : Nat) : Int) (k : Int) (Q : Int) (by omega) (by omega) m.length 0 0 rest' (Nat.zero_add _) rfl t2 (by omega) (fun p _ => rfl) (by simp [W])
   have v6' : divide_limbs_long_5 m (k : Int) 0 (m.length : Int) 0 rest' out m (s : Int) ((n + 2 : Nat) : Int) (k : Int) (Q : Int) = _ := v6
   have a2 := above R v2 (fun p hp => by rw [v3 p hp, t3 p hp])
   rw [divide_limbs_long_4_eq, show IntKind.u64.wrap ((q : Int) - 1) = (Q : Int) by rw [wrapU64 (by omega) (by omega)]; omega, v6']
   rw [Nat.mul_comm (4294967296 ^ k)] at v5
   rw [hqQ, Nat.succ_mul] at t5
   rcases Nat.lt_or_ge o 1 with h | h
   ·obtain rfl : o = 0 := by omega
    exfalso
    omega
   ·obtain rfl : o = 1 := by omega
    rw [Nat.mul_one] at v5
    exact done R (by omega) v2 (by omega)
theorem blen_bounds (h : Nat) : h < 2 ^ blen h ∧ (h ≠ 0 → 2 ^ blen h ≤ 2 * h) := by
 induction h using Nat.strongRecOn with
 | _ h ih =>
  by_cases h0 : h = 0
  ·subst h0; simp [blen_zero]
  ·obtain ⟨i1, i2⟩ := ih (h / 2) (by omega)
   rw [blen_pos h0, Nat.pow_succ]
   refine ⟨by omega, fun _ => ?_⟩
   by_cases h1 : h / 2 = 0
   ·rw [h1, blen_zero]; omega
   ·have := i2 h1; omega
theorem divLong (a b : Nat) (hb : 2 ≤ (limbs b).length) (hab : b ≤ a) (ha : (limbs a).length ≤ 500000000) : ∃ o r, divide_limbs_long (limbs a) (limbs b) = some (o, r) ∧ Ok 4294967296 o ∧ o.length ≤ 1000000000 ∧ Ok 4294967296 r ∧ r.length ≤ 1000000000 ∧ W 4294967296 o = a / b ∧ W 4294967296 r = a % b := by
 obtain ⟨n, hn⟩ : ∃ n, (limbs b).length = n + 2 := ⟨(limbs b).length - 2, by omega⟩
 have hle : (limbs b).length ≤ (limbs a).length := by
  rcases Nat.lt_or_ge (limbs a).length (limbs b).length with h | h
  ·have := limbs_len_lt h; omega
  ·exact h
 have hb0 : b ≠ 0 := fun e => by rw [e, limbs_zero] at hb; simp at hb
 have hlow := limbs_low hb0
 have hbl := lt_limbs b
 have hal := lt_limbs a
 rw [hn, show n + 2 - 1 = n + 1 by omega] at hlow
 rw [hn] at hbl
 have hx := (limbs_ok b).getD (by decide) (n + 1)
 have hd := W_digit (by decide) (limbs_ok b) (n + 1)
 rw [W_limbs] at hd
 have hlt : b / 4294967296 ^ (n + 1) < 4294967296 := (Nat.div_lt_iff_lt_mul (Nat.pow_pos (by decide))).2 (by rw [Nat.mul_comm, ← Nat.pow_succ]; exact hbl)
 rw [Nat.mod_eq_of_lt hlt] at hd
 have hpos : 0 < b / 4294967296 ^ (n + 1) := Nat.div_pos hlow (Nat.pow_pos (by decide))
 have hda := Nat.div_add_mod b (4294967296 ^ (n + 1))
 have hma := Nat.mod_lt b (Nat.pow_pos (n := n + 1) (show 0 < 4294967296 by decide))
 have n0 : (limbs b).getD (n + 1) 0 = (((limbs b).getD (n + 1) 0).toNat : Int) := by omega
 rw [hd] at n0
 generalize b / 4294967296 ^ (n + 1) = h at *
 obtain ⟨hb1, hb2⟩ := blen_bounds h
 have hb2 := hb2 (by omega)
 have hb32 := blen_le h (by omega)
 have hb3 : blen h ≠ 0 := fun e => by rw [e] at hb1; simp at hb1; omega
 obtain ⟨s, hs⟩ : ∃ s, s + blen h = 32 := ⟨32 - blen h, by omega⟩
 have hp : 2 ^ s * 2 ^ blen h = 4294967296 := by rw [← Nat.pow_add, hs]
 have hsp : 0 < 2 ^ s := Nat.two_pow_pos s
 have p1 : (h + 1) * 2 ^ s ≤ 4294967296 := by rw [← hp, Nat.mul_comm]; exact Nat.mul_le_mul_left _ hb1
 have p2 : 2147483648 ≤ h * 2 ^ s := by
  have : 2 ^ s * 2 ^ blen h ≤ 2 ^ s * (2 * h) := Nat.mul_le_mul_left _ hb2
  rw [hp, Nat.mul_left_comm, Nat.mul_comm (2 ^ s)] at this
  omega
 have hlz : math_bits_LeadingZeros32 ((limbs b).getD (n + 1) 0) = some (s : Int) := by
  refine (top_call ..).trans ?_
  show lz32F ((limbs b).getD (n + 1) 0) = _
  unfold lz32F
  rw [n0, cT (by simp; omega), Int.toNat_natCast, bitLen_blen h (by omega)]
  congr 1
  omega
 obtain ⟨R, e1, q1, q2, q3⟩ := divShift (limbs a) (limbs_ok a) (by omega) s (by omega)
 obtain ⟨M, e2, r1, r2, r3⟩ := divShift (limbs b) (limbs_ok b) (by omega) s (by omega)
 rw [W_limbs] at q3 r3
 have hbs : b * 2 ^ s < 4294967296 ^ (n + 2) := by
  have h1 : b < 4294967296 ^ (n + 1) * (h + 1) := by rw [Nat.mul_succ]; omega
  have h2 : b * 2 ^ s < 4294967296 ^ (n + 1) * (h + 1) * 2 ^ s := Nat.mul_lt_mul_of_pos_right h1 hsp
  rw [Nat.mul_assoc] at h2
  have h3 := Nat.mul_le_mul_left (4294967296 ^ (n + 1)) p1
  rw [Nat.pow_succ]
  omega
 have hMW : W 4294967296 (M.take (n + 2)) = b * 2 ^ s := by rw [← r3]; exact W_take_lt (by decide) r2 _ (by rw [r3]; exact hbs)
 have hMl : (M.take (n + 2)).length = n + 2 := by simp; omega
 have hhigh : 2147483648 ≤ ((M.take (n + 2)).getD (n + 1) 0).toNat := by
  rw [W_digit (by decide) (r2.take _), hMW, Nat.mod_eq_of_lt ((Nat.div_lt_iff_lt_mul (Nat.pow_pos (by decide))).2 (by rw [Nat.mul_comm (4294967296), ← Nat.pow_succ]; exact hbs)), Nat.le_div_iff_mul_le (Nat.pow_pos (by decide))]
  have h1 : 4294967296 ^ (n + 1) * h ≤ b := by omega
  have h2 := Nat.mul_le_mul_right (2 ^ s) h1
  have h3 := Nat.mul_le_mul_left (4294967296 ^ (n + 1)) p2
  rw [Nat.mul_assoc] at h2
  rw [Nat.mul_comm]
  omega
 obtain ⟨la, hla⟩ : ∃ la, (limbs a).length = la + (n + 2) := ⟨(limbs a).length - (n + 2), by omega⟩
 have hrest : W 4294967296 R < W 4294967296 (M.take (n + 2)) * 4294967296 ^ (la + 1) := by
  rw [q3, hMW, Nat.mul_right_comm]
  refine Nat.mul_lt_mul_of_pos_right ?_ hsp
  refine Nat.lt_of_lt_of_le hal ?_
  rw [hla, show la + (n + 2) = (n + 1) + (la + 1) by omega, Nat.pow_add]
  exact Nat.mul_le_mul_right _ (by omega)
 obtain ⟨o, r, g, g1, g2, g3, g4, g5, g6⟩ := divLong1 (M.take (n + 2)) (r2.take _) n hMl (by omega) hhigh s (by omega) (la + (n + 2) + 1) (by omega) (la + 1) R (List.replicate (la + 1) 0) (by omega) (by omega) q2 (Ok.zeros (by decide) _) (by simp) (by simp) (fun p _ => zeros_getD _ _) hrest
 rw [q3, hMW] at g5 g6
 refine ⟨o, r, ?_, g1, by rw [g2]; simp; omega, g3, by omega, ?_, ?_⟩
 ·rw [divide_limbs_long_eq, hn, hla, show IntKind.i64.wrap (((n + 2 : Nat) : Int) - 1) = ((n + 1 : Nat) : Int) by rw [wrap64 (by omega) (by omega)]; omega, cT (ix (by omega)), Int.toNat_natCast, hlz, Option.bind_some, e1, Option.bind_some, e2, Option.bind_some, cT (inC (by omega))]
  simp only [Int.toNat_natCast, Nat.sub_zero, Int.sub_zero, List.drop_zero]
  rw [show IntKind.i64.wrap (((la + (n + 2) : Nat) : Int) - ((n + 2 : Nat) : Int)) = ((la : Nat) : Int) by rw [wrap64 (by omega) (by omega)]; omega, wS (by omega), cT (by simp; omega), Int.toNat_natCast]
  rw [show (((la + 1 : Nat) : Int) - 1) = (la : Int) by omega] at g
  exact g
 ·rw [g5, W_zeros, Nat.zero_add, Nat.mul_div_mul_right _ _ hsp]
 ·rw [g6, Nat.mul_mod_mul_right, Nat.mul_div_cancel _ hsp]
theorem divDivMod (a b : List UInt8) (ha : a.length ≤ 1000000000) (hb : b.length ≤ 1000000000) : divide_DivMod a b = some (divmod (val a) (val b)) := by
 have la := limbs_val a
 have lb := limbs_val b
 rw [divide_DivMod_eq, divRead a ha, Option.bind_some, divRead b hb, Option.bind_some, divmod]
 by_cases h0 : val b = 0
 ·rw [if_pos h0, cT (decide_eq_true (by rw [limbs_nil.2 h0]; rfl))]
 ·have hn0 : (limbs (val b)).length ≠ 0 := fun e => h0 (limbs_nil.1 e)
  rw [if_neg h0, cF (decide_eq_false (by omega)), natCmp a b (by omega) (by omega), Option.bind_some]
  by_cases hlt : val a < val b
  ·rw [cT (decide_eq_true (sgnv_neg.2 hlt)), natTrim, Option.bind_some, Nat.div_eq_of_lt hlt, Nat.mod_eq_of_lt hlt, nat_zero]
  ·have hns : ¬ sgnv (val a) (val b) < 0 := fun h => hlt (sgnv_neg.1 h)
   rw [cF (decide_eq_false hns)]
   by_cases h1 : (limbs (val b)).length = 1
   ·have hbb := lt_limbs (val b)
    rw [h1, Nat.pow_one] at hbb
    have hg : (limbs (val b)).getD 0 0 = ((val b : Nat) : Int) := by rw [limbs_getD]; simp only [Nat.pow_zero, Nat.div_one]; rw [Nat.mod_eq_of_lt hbb]
    obtain ⟨out, e, o1, o2, o3⟩ := divShort (limbs (val a)) (val b) (by omega) hbb (limbs_ok _) (by omega)
    rw [W_limbs] at e o3
    have hm := Nat.mod_lt (val a) (show 0 < val b by omega)
    rw [cT (decide_eq_true (by omega)), cT (by rw [h1]; rfl), hg, e, Option.bind_some, divide_DivMod_1_eq, divText out (by omega) o1, Option.bind_some, divText _ (by simp) ((Ok.nil _).cons (Int.natCast_nonneg _) (by omega)), Option.bind_some, o3, W, W, Nat.mul_zero, Nat.add_zero, Int.toNat_natCast]
   ·obtain ⟨o, r, e, o1, o2, o3, o4, o5, o6⟩ := divLong (val a) (val b) (by omega) (by omega) (by omega)
    rw [cF (decide_eq_false (by omega)), e, Option.bind_some, divide_DivMod_1_eq, divText o o2 o1, Option.bind_some, divText r o4 o3, Option.bind_some, o5, o6]
end Go.Proofs.YtgnkkanhjghhfaaGreatDoor.P
set_option maxRecDepth 100000
namespace Go.Proofs.YtgnkkanhjghhfaaGreatDoor.C
open Go Go.Proofs.YtgnkkanhjghhfaaGreatDoor.K
theorem look_all {α : Type} {Q : Nat → α → Prop} : ∀ {l : List (Nat × α)}, (∀ p ∈ l, Q p.1 p.2) → ∀ t v, look l t = some v → Q t v
 | [], _, t, v, h => by cases h
 | (u, x) :: l, hl, t, v, h => by
  simp only [look] at h
  split at h
  ·rename_i hb
   have := Nat.eq_of_beq_eq_true hb
   subst this
   cases h
   exact hl _ (List.mem_cons_self ..)
  ·exact look_all (fun p hp => hl p (List.mem_cons_of_mem _ hp)) t v h
theorem all_nil {α : Type} {Q : Nat → α → Prop} : ∀ p ∈ ([] : List (Nat × α)), Q p.1 p.2 := fun p h => by cases h
theorem all_cons {α : Type} {Q : Nat → α → Prop} {u : Nat} {x : α} {l : List (Nat × α)} (h : Q u x) (hl : ∀ p ∈ l, Q p.1 p.2) : ∀ p ∈ (u, x) :: l, Q p.1 p.2 := fun p hp => by
 rcases List.mem_cons.1 hp with rfl | hp
 ·exact h
 ·exact hl p hp
theorem tiok3 : TIok Tryz.prog 3 ti3 := ⟨by kernel_rfl, by kernel_rfl, by kernel_rfl, by kernel_rfl, by kernel_rfl, by kernel_rfl, by kernel_rfl, by kernel_rfl, ⟨by kernel_rfl, by kernel_rfl, by kernel_rfl⟩, fun h => by cases h⟩
theorem tiok5 : TIok Tryz.prog 5 ti5 := ⟨by kernel_rfl, by kernel_rfl, by kernel_rfl, by kernel_rfl, by kernel_rfl, by kernel_rfl, by kernel_rfl, by kernel_rfl, ⟨by kernel_rfl, by kernel_rfl, by kernel_rfl⟩, fun h => by cases h⟩
theorem tiok9 : TIok Tryz.prog 9 ti9 := ⟨by kernel_rfl, by kernel_rfl, by kernel_rfl, by kernel_rfl, by kernel_rfl, by kernel_rfl, by kernel_rfl, by kernel_rfl, ⟨by kernel_rfl, by kernel_rfl, by kernel_rfl⟩, fun h => by cases h⟩
theorem tiok23 : TIok Tryz.prog 23 ti23 := ⟨by kernel_rfl, by kernel_rfl, by kernel_rfl, by kernel_rfl, by kernel_rfl, by kernel_rfl, by kernel_rfl, by kernel_rfl, ⟨by kernel_rfl, by kernel_rfl, by kernel_rfl⟩, fun h => by cases h⟩
theorem tiok99 : TIok Tryz.prog 99 ti99 := ⟨by kernel_rfl, by kernel_rfl, by kernel_rfl, by kernel_rfl, by kernel_rfl, by kernel_rfl, by kernel_rfl, by kernel_rfl, ⟨by kernel_rfl, by kernel_rfl, by kernel_rfl⟩, fun h => by cases h⟩
theorem tiok106 : TIok Tryz.prog 106 ti106 := ⟨by kernel_rfl, by kernel_rfl, by kernel_rfl, by kernel_rfl, by kernel_rfl, by kernel_rfl, by kernel_rfl, by kernel_rfl, ⟨by kernel_rfl, by kernel_rfl, by kernel_rfl⟩, fun h => by cases h⟩
theorem tiok123 : TIok Tryz.prog 123 ti123 := ⟨by kernel_rfl, by kernel_rfl, by kernel_rfl, by kernel_rfl, by kernel_rfl, by kernel_rfl, by kernel_rfl, by kernel_rfl, ⟨by kernel_rfl, by kernel_rfl, by kernel_rfl⟩, fun h => by cases h⟩
theorem tiok137 : TIok Tryz.prog 137 ti137 := ⟨by kernel_rfl, by kernel_rfl, by kernel_rfl, by kernel_rfl, by kernel_rfl, by kernel_rfl, by kernel_rfl, by kernel_rfl, ⟨by kernel_rfl, by kernel_rfl, by kernel_rfl⟩, fun h => by cases h⟩
theorem tiok140 : TIok Tryz.prog 140 ti140 := ⟨by kernel_rfl, by kernel_rfl, by kernel_rfl, by kernel_rfl, by kernel_rfl, by kernel_rfl, by kernel_rfl, by kernel_rfl, ⟨by kernel_rfl, by kernel_rfl, by kernel_rfl⟩, fun h => by cases h⟩
theorem tiok149 : TIok Tryz.prog 149 ti149 := ⟨by kernel_rfl, by kernel_rfl, by kernel_rfl, by kernel_rfl, by kernel_rfl, by kernel_rfl, by kernel_rfl, by kernel_rfl, ⟨by kernel_rfl, by kernel_rfl, by kernel_rfl⟩, fun h => by cases h⟩
theorem tis_ok : CtxTI Tryz.prog CT := look_all (l := tis) (all_cons tiok3 (all_cons tiok5 (all_cons tiok9 (all_cons tiok23 (all_cons tiok99 (all_cons tiok106 (all_cons tiok123 (all_cons tiok137 (all_cons tiok140 (all_cons tiok149 all_nil))))))))))
def FnOk (f : Nat) (fn : Func) : Prop := Tryz.prog.funcs[f]? = some fn ∧ fn.body.isSome = true ∧ (fn.name == "runtime.NumGoroutine") = false
def ParOk (i : Nat) (fn : Func) : Prop := ((look ptsL i).getD []).length ≤ fn.ntmps
theorem fnok137 : FnOk 137 Tryz.f137 := ⟨Tryz.func137, by kernel_rfl, by kernel_rfl⟩
theorem parok137 : ParOk 137 Tryz.f137 := Nat.le_of_ble_eq_true (by kernel_rfl)
theorem fnok158 : FnOk 158 Tryz.f158 := ⟨Tryz.func158, by kernel_rfl, by kernel_rfl⟩
theorem parok158 : ParOk 158 Tryz.f158 := Nat.le_of_ble_eq_true (by kernel_rfl)
theorem fnok159 : FnOk 159 Tryz.f159 := ⟨Tryz.func159, by kernel_rfl, by kernel_rfl⟩
theorem parok159 : ParOk 159 Tryz.f159 := Nat.le_of_ble_eq_true (by kernel_rfl)
theorem fnok73 : FnOk 73 Tryz.f73 := ⟨Tryz.func73, by kernel_rfl, by kernel_rfl⟩
theorem parok73 : ParOk 73 Tryz.f73 := Nat.le_of_ble_eq_true (by kernel_rfl)
theorem fnok75 : FnOk 75 Tryz.f75 := ⟨Tryz.func75, by kernel_rfl, by kernel_rfl⟩
theorem parok75 : ParOk 75 Tryz.f75 := Nat.le_of_ble_eq_true (by kernel_rfl)
theorem fnok76 : FnOk 76 Tryz.f76 := ⟨Tryz.func76, by kernel_rfl, by kernel_rfl⟩
theorem parok76 : ParOk 76 Tryz.f76 := Nat.le_of_ble_eq_true (by kernel_rfl)
theorem fnok82 : FnOk 82 Tryz.f82 := ⟨Tryz.func82, by kernel_rfl, by kernel_rfl⟩
theorem parok82 : ParOk 82 Tryz.f82 := Nat.le_of_ble_eq_true (by kernel_rfl)
theorem fnok93 : FnOk 93 Tryz.f93 := ⟨Tryz.func93, by kernel_rfl, by kernel_rfl⟩
theorem parok93 : ParOk 93 Tryz.f93 := Nat.le_of_ble_eq_true (by kernel_rfl)
theorem fnok94 : FnOk 94 Tryz.f94 := ⟨Tryz.func94, by kernel_rfl, by kernel_rfl⟩
theorem parok94 : ParOk 94 Tryz.f94 := Nat.le_of_ble_eq_true (by kernel_rfl)
theorem fnok95 : FnOk 95 Tryz.f95 := ⟨Tryz.func95, by kernel_rfl, by kernel_rfl⟩
theorem parok95 : ParOk 95 Tryz.f95 := Nat.le_of_ble_eq_true (by kernel_rfl)
theorem fnok99 : FnOk 99 Tryz.f99 := ⟨Tryz.func99, by kernel_rfl, by kernel_rfl⟩
theorem parok99 : ParOk 99 Tryz.f99 := Nat.le_of_ble_eq_true (by kernel_rfl)
theorem fnok100 : FnOk 100 Tryz.f100 := ⟨Tryz.func100, by kernel_rfl, by kernel_rfl⟩
theorem parok100 : ParOk 100 Tryz.f100 := Nat.le_of_ble_eq_true (by kernel_rfl)
theorem fnok106 : FnOk 106 Tryz.f106 := ⟨Tryz.func106, by kernel_rfl, by kernel_rfl⟩
theorem parok106 : ParOk 106 Tryz.f106 := Nat.le_of_ble_eq_true (by kernel_rfl)
theorem fnok109 : FnOk 109 Tryz.f109 := ⟨Tryz.func109, by kernel_rfl, by kernel_rfl⟩
theorem parok109 : ParOk 109 Tryz.f109 := Nat.le_of_ble_eq_true (by kernel_rfl)
theorem fnok117 : FnOk 117 Tryz.f117 := ⟨Tryz.func117, by kernel_rfl, by kernel_rfl⟩
theorem parok117 : ParOk 117 Tryz.f117 := Nat.le_of_ble_eq_true (by kernel_rfl)
theorem fnok119 : FnOk 119 Tryz.f119 := ⟨Tryz.func119, by kernel_rfl, by kernel_rfl⟩
theorem parok119 : ParOk 119 Tryz.f119 := Nat.le_of_ble_eq_true (by kernel_rfl)
theorem fnok120 : FnOk 120 Tryz.f120 := ⟨Tryz.func120, by kernel_rfl, by kernel_rfl⟩
theorem parok120 : ParOk 120 Tryz.f120 := Nat.le_of_ble_eq_true (by kernel_rfl)
theorem fnok122 : FnOk 122 Tryz.f122 := ⟨Tryz.func122, by kernel_rfl, by kernel_rfl⟩
theorem parok122 : ParOk 122 Tryz.f122 := Nat.le_of_ble_eq_true (by kernel_rfl)
theorem fnok124 : FnOk 124 Tryz.f124 := ⟨Tryz.func124, by kernel_rfl, by kernel_rfl⟩
theorem parok124 : ParOk 124 Tryz.f124 := Nat.le_of_ble_eq_true (by kernel_rfl)
theorem fnok125 : FnOk 125 Tryz.f125 := ⟨Tryz.func125, by kernel_rfl, by kernel_rfl⟩
theorem parok125 : ParOk 125 Tryz.f125 := Nat.le_of_ble_eq_true (by kernel_rfl)
theorem fnok126 : FnOk 126 Tryz.f126 := ⟨Tryz.func126, by kernel_rfl, by kernel_rfl⟩
theorem parok126 : ParOk 126 Tryz.f126 := Nat.le_of_ble_eq_true (by kernel_rfl)
theorem fnok127 : FnOk 127 Tryz.f127 := ⟨Tryz.func127, by kernel_rfl, by kernel_rfl⟩
theorem parok127 : ParOk 127 Tryz.f127 := Nat.le_of_ble_eq_true (by kernel_rfl)
theorem fnok128 : FnOk 128 Tryz.f128 := ⟨Tryz.func128, by kernel_rfl, by kernel_rfl⟩
theorem parok128 : ParOk 128 Tryz.f128 := Nat.le_of_ble_eq_true (by kernel_rfl)
theorem fnok129 : FnOk 129 Tryz.f129 := ⟨Tryz.func129, by kernel_rfl, by kernel_rfl⟩
theorem parok129 : ParOk 129 Tryz.f129 := Nat.le_of_ble_eq_true (by kernel_rfl)
theorem fnok131 : FnOk 131 Tryz.f131 := ⟨Tryz.func131, by kernel_rfl, by kernel_rfl⟩
theorem parok131 : ParOk 131 Tryz.f131 := Nat.le_of_ble_eq_true (by kernel_rfl)
theorem fnok132 : FnOk 132 Tryz.f132 := ⟨Tryz.func132, by kernel_rfl, by kernel_rfl⟩
theorem parok132 : ParOk 132 Tryz.f132 := Nat.le_of_ble_eq_true (by kernel_rfl)
theorem fnok134 : FnOk 134 Tryz.f134 := ⟨Tryz.func134, by kernel_rfl, by kernel_rfl⟩
theorem parok134 : ParOk 134 Tryz.f134 := Nat.le_of_ble_eq_true (by kernel_rfl)
theorem fnok135 : FnOk 135 Tryz.f135 := ⟨Tryz.func135, by kernel_rfl, by kernel_rfl⟩
theorem parok135 : ParOk 135 Tryz.f135 := Nat.le_of_ble_eq_true (by kernel_rfl)
theorem fnok138 : FnOk 138 Tryz.f138 := ⟨Tryz.func138, by kernel_rfl, by kernel_rfl⟩
theorem parok138 : ParOk 138 Tryz.f138 := Nat.le_of_ble_eq_true (by kernel_rfl)
theorem fnok139 : FnOk 139 Tryz.f139 := ⟨Tryz.func139, by kernel_rfl, by kernel_rfl⟩
theorem parok139 : ParOk 139 Tryz.f139 := Nat.le_of_ble_eq_true (by kernel_rfl)
theorem fnok140 : FnOk 140 Tryz.f140 := ⟨Tryz.func140, by kernel_rfl, by kernel_rfl⟩
theorem parok140 : ParOk 140 Tryz.f140 := Nat.le_of_ble_eq_true (by kernel_rfl)
theorem fnok141 : FnOk 141 Tryz.f141 := ⟨Tryz.func141, by kernel_rfl, by kernel_rfl⟩
theorem parok141 : ParOk 141 Tryz.f141 := Nat.le_of_ble_eq_true (by kernel_rfl)
theorem fnok142 : FnOk 142 Tryz.f142 := ⟨Tryz.func142, by kernel_rfl, by kernel_rfl⟩
theorem parok142 : ParOk 142 Tryz.f142 := Nat.le_of_ble_eq_true (by kernel_rfl)
theorem fnok143 : FnOk 143 Tryz.f143 := ⟨Tryz.func143, by kernel_rfl, by kernel_rfl⟩
theorem parok143 : ParOk 143 Tryz.f143 := Nat.le_of_ble_eq_true (by kernel_rfl)
theorem fnok152 : FnOk 152 Tryz.f152 := ⟨Tryz.func152, by kernel_rfl, by kernel_rfl⟩
theorem parok152 : ParOk 152 Tryz.f152 := Nat.le_of_ble_eq_true (by kernel_rfl)
theorem fnok153 : FnOk 153 Tryz.f153 := ⟨Tryz.func153, by kernel_rfl, by kernel_rfl⟩
theorem parok153 : ParOk 153 Tryz.f153 := Nat.le_of_ble_eq_true (by kernel_rfl)
theorem fnok155 : FnOk 155 Tryz.f155 := ⟨Tryz.func155, by kernel_rfl, by kernel_rfl⟩
theorem parok155 : ParOk 155 Tryz.f155 := Nat.le_of_ble_eq_true (by kernel_rfl)
theorem fnok156 : FnOk 156 Tryz.f156 := ⟨Tryz.func156, by kernel_rfl, by kernel_rfl⟩
theorem parok156 : ParOk 156 Tryz.f156 := Nat.le_of_ble_eq_true (by kernel_rfl)
theorem fnok157 : FnOk 157 Tryz.f157 := ⟨Tryz.func157, by kernel_rfl, by kernel_rfl⟩
theorem parok157 : ParOk 157 Tryz.f157 := Nat.le_of_ble_eq_true (by kernel_rfl)
theorem fnok160 : FnOk 160 Tryz.f160 := ⟨Tryz.func160, by kernel_rfl, by kernel_rfl⟩
theorem parok160 : ParOk 160 Tryz.f160 := Nat.le_of_ble_eq_true (by kernel_rfl)
theorem fns_ok : ∀ f fn, look fns f = some fn → FnOk f fn := look_all (Q := FnOk) (l := fns) (all_cons fnok73 (all_cons fnok75 (all_cons fnok76 (all_cons fnok82 (all_cons fnok93 (all_cons fnok94 (all_cons fnok95 (all_cons fnok99 (all_cons fnok100 (all_cons fnok106 (all_cons fnok109 (all_cons fnok117 (all_cons fnok119 (all_cons fnok120 (all_cons fnok122 (all_cons fnok124 (all_cons fnok125 (all_cons fnok126 (all_cons fnok127 (all_cons fnok128 (all_cons fnok129 (all_cons fnok131 (all_cons fnok132 (all_cons fnok134 (all_cons fnok135 (all_cons fnok138 (all_cons fnok139 (all_cons fnok140 (all_cons fnok141 (all_cons fnok142 (all_cons fnok143 (all_cons fnok152 (all_cons fnok153 (all_cons fnok155 (all_cons fnok156 (all_cons fnok157 (all_cons fnok160 (all_cons fnok137 (all_cons fnok158 (all_cons fnok159 all_nil))))))))))))))))))))))))))))))))))))))))
theorem ctx_ok : CtxOk Tryz.prog CT := ⟨tis_ok, fns_ok, by kernel_rfl, inv_keeps⟩
theorem pars_ok : ∀ i fn, look fns i = some fn → ParOk i fn := look_all (Q := ParOk) (l := fns) (all_cons parok73 (all_cons parok75 (all_cons parok76 (all_cons parok82 (all_cons parok93 (all_cons parok94 (all_cons parok95 (all_cons parok99 (all_cons parok100 (all_cons parok106 (all_cons parok109 (all_cons parok117 (all_cons parok119 (all_cons parok120 (all_cons parok122 (all_cons parok124 (all_cons parok125 (all_cons parok126 (all_cons parok127 (all_cons parok128 (all_cons parok129 (all_cons parok131 (all_cons parok132 (all_cons parok134 (all_cons parok135 (all_cons parok138 (all_cons parok139 (all_cons parok140 (all_cons parok141 (all_cons parok142 (all_cons parok143 (all_cons parok152 (all_cons parok153 (all_cons parok155 (all_cons parok156 (all_cons parok157 (all_cons parok160 (all_cons parok137 (all_cons parok158 (all_cons parok159 all_nil))))))))))))))))))))))))))))))))))))))))
theorem sound (hE : ExtOk Tryz.prog CT) : ∀ k, SpecOk Tryz.prog (sem CT k) ∧ StageOk Tryz.prog (sem CT k) := sem_sound ctx_ok hE pars_ok
theorem ext_ok : ExtOk Tryz.prog CT := ext_of (l := extL) rfl (allE_cons (ext_at (H.text_ok inv_keeps (B.cut_ok inv_max) (B.trim_ok inv_max))) (allE_cons (ext_at (trimLeft_ok)) (allE_cons (ext_at (len_ok)) (allE_cons (ext_at (H.short_ok)) (allE_cons (ext_at (H.textDiv_ok inv_keeps (B.trim_ok inv_max))) (allE_cons (ext_at (H.cmp_ok)) (allE_cons (ext_at (lz32_ok)) allE_nil)))))))
theorem spec_ok (k : Nat) : SpecOk Tryz.prog (sem CT k) := (sound ext_ok k).1
end Go.Proofs.YtgnkkanhjghhfaaGreatDoor.C
namespace Go.Proofs.YtgnkkanhjghhfaaGreatDoor.Q
open Go Go.Proofs.YtgnkkanhjghhfaaGreatDoor.K Go.Proofs.YtgnkkanhjghhfaaGreatDoor.C Go.Proofs.YtgnkkanhjghhfaaGreatDoor.P
def ok1 (s : List UInt8) : Bool := Nat.ble s.length 1000000000
def trimQ (s : List UInt8) : Option (List UInt8) := cond (ok1 s) (some (Lib.trimLeftB s 0)) none
def ofQ (n : Int) : Option (List UInt8) := cond (decide (0 ≤ n) && decide (n < 18446744073709551616)) (some (nat n.toNat)) none
def smallQ (s : List UInt8) : Option (Int × Bool) := cond (ok1 s) (some (small (val s))) none
def addQ (y : List UInt8 × List UInt8) : Option (List UInt8) := cond (ok1 y.1 && ok1 y.2) (some (nat (val y.1 + val y.2))) none
def mulQ (y : List UInt8 × List UInt8) : Option (List UInt8) := cond (ok1 y.1 && ok1 y.2) (some (nat (val y.1 * val y.2))) none
def divQ (y : List UInt8 × List UInt8) : Option (List UInt8 × List UInt8 × Int) := cond (ok1 y.1 && ok1 y.2) (some (divmod (val y.1) (val y.2))) none
theorem ok1_le {s : List UInt8} (h : ok1 s = true) : s.length ≤ 1000000000 := Nat.le_of_ble_eq_true h
theorem ok2_le {a b : List UInt8} (h : (ok1 a && ok1 b) = true) : a.length ≤ 1000000000 ∧ b.length ≤ 1000000000 := by
 rw [Bool.and_eq_true] at h
 exact ⟨ok1_le h.1, ok1_le h.2⟩
theorem call_of {i : Nat} (hf : (C.CT.fn (C.CT.fid i)).isSome = true) {g : den (tyL (C.CT.pts i)) → Option (den (tyL (C.CT.rts i)))} (hg : ∀ y r, g y = some r → (top C.CT).callF i y = some r) {inv : World → Prop} (hi : ∀ w, inv w → MaxLen w) :
  CallT Tryz.prog (C.CT.fid i) (C.CT.pts i) (C.CT.rts i) inv g := B.callT_of (C := C.CT) C.spec_ok hf hg hi
variable {inv : World → Prop} (hi : ∀ w, inv w → MaxLen w)
include hi
theorem trim_ok : CallT Tryz.prog 122 [.str] [.str] inv trimQ := call_of (i := 122) (by kernel_rfl) (g := trimQ) (fun y r h => by
 obtain ⟨hc, rfl⟩ := cond_some h
 exact (natTrim y).trans (congrArg some (trimB y).symm)) hi
theorem of_ok : CallT Tryz.prog 128 [.int .u64] [.str] inv ofQ := call_of (i := 128) (by kernel_rfl) (g := ofQ) (fun y r h => by
 obtain ⟨hc, rfl⟩ := cond_some h
 simp only [Bool.and_eq_true, decide_eq_true_eq] at hc
 obtain ⟨n, rfl⟩ := Int.eq_ofNat_of_zero_le hc.1
 exact natOf n (by omega)) hi
theorem mul_ok : CallT Tryz.prog 106 [.str, .str] [.str] inv mulQ := call_of (i := 106) (by kernel_rfl) (g := mulQ) (fun y r h => by
 obtain ⟨hc, rfl⟩ := cond_some h
 obtain ⟨h1, h2⟩ := ok2_le hc
 exact natMul y.1 y.2 (by omega) (by omega)) hi
theorem div_ok : CallT Tryz.prog 129 [.str, .str] [.str, .str, .int .i64] inv divQ := call_of (i := 129) (by kernel_rfl) (g := divQ) (fun y r h => by
 obtain ⟨hc, rfl⟩ := cond_some h
 obtain ⟨h1, h2⟩ := ok2_le hc
 exact divDivMod y.1 y.2 h1 h2) hi
theorem rtrim_ok : CallT Tryz.prog 82 [.str] [.str] inv trimQ := call_of (i := 82) (by kernel_rfl) (g := trimQ) (fun y r h => by
 obtain ⟨hc, rfl⟩ := cond_some h
 have := ok1_le hc
 exact (refTrim y (by omega)).trans (congrArg some (trimB y).symm)) hi
theorem rof_ok : CallT Tryz.prog 76 [.int .u64] [.str] inv ofQ := call_of (i := 76) (by kernel_rfl) (g := ofQ) (fun y r h => by
 obtain ⟨hc, rfl⟩ := cond_some h
 simp only [Bool.and_eq_true, decide_eq_true_eq] at hc
 obtain ⟨n, rfl⟩ := Int.eq_ofNat_of_zero_le hc.1
 exact refOf n (by omega)) hi
theorem rmul_ok : CallT Tryz.prog 99 [.str, .str] [.str] inv mulQ := call_of (i := 99) (by kernel_rfl) (g := mulQ) (fun y r h => by
 obtain ⟨hc, rfl⟩ := cond_some h
 obtain ⟨h1, h2⟩ := ok2_le hc
 exact refMul y.1 y.2 (by omega) (by omega)) hi
theorem rdiv_ok : CallT Tryz.prog 94 [.str, .str] [.str, .str, .int .i64] inv divQ := call_of (i := 94) (by kernel_rfl) (g := divQ) (fun y r h => by
 obtain ⟨hc, rfl⟩ := cond_some h
 obtain ⟨h1, h2⟩ := ok2_le hc
 exact refDivMod y.1 y.2 h1 h2) hi
end Go.Proofs.YtgnkkanhjghhfaaGreatDoor.Q
namespace Go.Proofs.YtgnkkanhjghhfaaGreatDoor.P
open Go Go.Proofs.YtgnkkanhjghhfaaGreatDoor.K Go.Proofs.YtgnkkanhjghhfaaGreatDoor.C
theorem pow_256 (k : Nat) : 256 ^ k = 2 ^ (8 * k) := by rw [show (256 : Nat) = 2 ^ 8 by decide, ← Nat.pow_mul]
theorem gcd_step (a b : Nat) : Nat.gcd a b = Nat.gcd b (a % b) := by rw [Nat.gcd_comm a b, Nat.gcd_rec, Nat.gcd_comm]
theorem divGcd1 : ∀ (n a b : Nat), b ≤ n → (nat a).length ≤ 1000000000 → (nat b).length ≤ 1000000000 → divide_Gcd_1 (nat a) (nat b) = some (nat (Nat.gcd a b))
 | n, a, b, h, ha, hb => by
  by_cases h0 : b = 0
  ·subst h0
   rw [divide_Gcd_1_eq, nat_zero, cF (by rfl), Nat.gcd_zero_right]
  ·match n with
   | 0 => omega
   | n + 1 =>
    have hm := Nat.mod_lt a (show 0 < b by omega)
    rw [divide_Gcd_1_eq, cT (by rw [decide_eq_false (fun e => h0 (nat_eq_nil.1 e))]; rfl), divDivMod _ _ ha hb, Option.bind_some, val_nat, val_nat, divmod, if_neg h0]
    simp only
    rw [cF (by rfl), divGcd1 n b (a % b) (by omega) hb (Nat.le_trans (len_mono (Nat.le_of_lt hm)) hb), ← gcd_step]
theorem divGcd (a b : List UInt8) (ha : a.length ≤ 1000000000) (hb : b.length ≤ 1000000000) : divide_Gcd a b = some (nat (Nat.gcd (val a) (val b))) := by
 have la := nat_val_length a
 have lb := nat_val_length b
 rw [divide_Gcd_eq, natTrim, Option.bind_some, natTrim, Option.bind_some, divGcd1 _ _ _ (Nat.le_refl _) (by omega) (by omega)]
theorem refMod (a b : Nat) (ha : (nat a).length ≤ 1000000000) (hb : (nat b).length ≤ 1000000000) (h : b ≠ 0) : r02_Mod (nat a) (nat b) = some (nat (a % b)) := by
 rw [r02_Mod_eq, refDivMod _ _ ha hb, val_nat, val_nat, divmod, if_neg h]; rfl
theorem refGcd0 (s : List UInt8) (i : Int) : r02_Gcd_1 s [] i = some s := by
 rw [r02_Gcd_1_eq]
 have e : (!decide (([] : List UInt8) = [])) = false := rfl
 rw [e]
 cases decide (i < 20000)
 ·rw [cond_false, r02_Gcd_2_eq, cond_false]
 ·rw [cond_true, r02_Gcd_2_eq, cond_false]
theorem refGcdS (a b i : Nat) (ha : (nat a).length ≤ 1000000000) (hb : (nat b).length ≤ 1000000000) (h : b ≠ 0) (hi : i < 20000) : r02_Gcd_1 (nat a) (nat b) (i : Int) = r02_Gcd_1 (nat b) (nat (a % b)) ((i + 1 : Nat) : Int) := by
 rw [r02_Gcd_1_eq, cT (decide_eq_true (by omega)), decide_eq_false (fun e => h (nat_eq_nil.1 e)), r02_Gcd_2_eq, cT (by rfl), refMod a b ha hb h, Option.bind_some, wS (by omega)]
theorem refGcd1 : ∀ (k a b i : Nat), b < 2 ^ k → i + 2 * k ≤ 19999 → (nat a).length ≤ 1000000000 → (nat b).length ≤ 1000000000 → r02_Gcd_1 (nat a) (nat b) (i : Int) = some (nat (Nat.gcd a b))
 | k, a, b, i, hb, hi, la, lb => by
  by_cases h0 : b = 0
  ·subst h0; rw [nat_zero, refGcd0, Nat.gcd_zero_right]
  ·match k with
   | 0 => simp at hb; omega
   | k + 1 =>
    have hm := Nat.mod_lt a (show 0 < b by omega)
    have lm := Nat.le_trans (len_mono (Nat.le_of_lt hm)) lb
    rw [refGcdS a b i la lb h0 (by omega), gcd_step]
    by_cases h1 : a % b = 0
    ·rw [h1, nat_zero, refGcd0, Nat.gcd_zero_right]
    ·have hm2 := Nat.mod_lt b (show 0 < a % b by omega)
     have hd := Nat.div_add_mod b (a % b)
     have hp : 0 < b / (a % b) := Nat.div_pos (Nat.le_of_lt hm) (by omega)
     have hq : a % b * 1 ≤ a % b * (b / (a % b)) := Nat.mul_le_mul_left _ hp
     rw [refGcdS b (a % b) (i + 1) lb lm h1 (by omega), gcd_step]
     exact refGcd1 k (a % b) (b % (a % b)) (i + 1 + 1) (by rw [Nat.pow_succ] at hb; omega) (by omega) lm (Nat.le_trans (len_mono (Nat.le_of_lt hm2)) lm)
theorem refGcd (a b : List UInt8) (ha : a.length ≤ 1000) (hb : b.length ≤ 1000) : r02_Gcd a b = some (nat (Nat.gcd (val a) (val b))) := by
 have la := nat_val_length a
 have lb := nat_val_length b
 have hv := val_lt b
 rw [pow_256] at hv
 have := refGcd1 (8 * b.length) (val a) (val b) 0 hv (by omega) (by omega) (by omega)
 rw [r02_Gcd_eq, refTrim _ (by omega), Option.bind_some, refTrim _ (by omega), Option.bind_some]
 exact this
end Go.Proofs.YtgnkkanhjghhfaaGreatDoor.P
namespace Go.Proofs.YtgnkkanhjghhfaaGreatDoor.P
open Go Go.Proofs.YtgnkkanhjghhfaaGreatDoor.K Go.Proofs.YtgnkkanhjghhfaaGreatDoor.C
def powV (A n : Nat) : List UInt8 × Int := if (nat (A ^ n)).length > 1024 then ([], 9) else (nat (A ^ n), 0)
def powR (A : Nat) (n : Int) : List UInt8 × Int := if n < 0 then ([], 2) else if n = 0 then ([1], 0) else if A = 0 ∨ A = 1 then (nat A, 0) else powV A n.toNat
theorem nat_one : nat 1 = [1] := rfl
theorem neg_or (n : Int) : n < 0 ∨ ∃ k : Nat, n = (k : Int) := by
 rcases Int.lt_or_le n 0 with h | h
 ·exact .inl h
 ·exact .inr ⟨n.toNat, by omega⟩
theorem powV_big {A n m : Nat} (hA : 0 < A) (h : m ≤ n) (hl : (nat (A ^ m)).length > 1024) : powV A n = ([], 9) := by
 have := len_mono (Nat.pow_le_pow_right hA h)
 rw [powV, if_pos (by omega)]
theorem bit_at (n j : Nat) (hn : n ≤ 9000) (hj : j < 63) : bitop .and .i64 ((n : Int).fdiv (2 ^ min (j : Int).toNat IntKind.i64.bits)) 1 = ((n / 2 ^ j % 2 : Nat) : Int) := by
 have hp : (2 : Int) ^ min (j : Int).toNat IntKind.i64.bits = ((2 ^ j : Nat) : Int) := by
  rw [Int.toNat_natCast, show IntKind.i64.bits = 64 from rfl, Nat.min_eq_left (by omega)]; simp
 have hq : n / 2 ^ j ≤ n := Nat.div_le_self _ _
 have hpos : 0 < 2 ^ j := Nat.two_pow_pos j
 rw [hp, fd (by omega), ← Int.natCast_ediv]
 generalize n / 2 ^ j = q at hq
 have := bits_mask .i64 63 (by decide) wraps_i64 1 (by decide) (q : Int) (by omega) (by omega)
 exact this.trans (by omega)
theorem half_at (n j : Nat) : n / 2 ^ j = 2 * (n / 2 ^ (j + 1)) + n / 2 ^ j % 2 := by
 rw [Nat.pow_succ, ← Nat.div_div_eq_div_mul]
 omega
theorem divPow2 (A n : Nat) (hA : 0 < A) (hn : n ≤ 9000) (lA : (nat A).length ≤ 1024) : ∀ (j : Nat), j ≤ 60 → (nat (A ^ (n / 2 ^ j))).length ≤ 1024 → divide_Pow_2 (nat A) (n : Int) ((j : Int) - 1) (nat (A ^ (n / 2 ^ j))) = some (powV A n)
 | 0, hj, hl => by
  rw [divide_Pow_2_eq, cF (decide_eq_false (by omega)), powV]
  simp only [Nat.pow_zero, Nat.div_one] at hl ⊢
  rw [if_neg (by omega)]
 | j + 1, hj, hl => by
  have hh := half_at n j
  have hle : n / 2 ^ j ≤ n := Nat.div_le_self _ _
  have sq : A ^ (n / 2 ^ (j + 1)) * A ^ (n / 2 ^ (j + 1)) = A ^ (2 * (n / 2 ^ (j + 1))) := by rw [← Nat.pow_add]; congr 1; omega
  have over : ∀ (p : List UInt8), divide_Pow_4 (nat A) (n : Int) (j : Int) true p = some ([], 9) := fun p => by rw [divide_Pow_4_eq, cond_true]
  have next : ∀ (m : Nat), m = n / 2 ^ j → (nat (A ^ m)).length ≤ 1024 → divide_Pow_4 (nat A) (n : Int) (j : Int) false (nat (A ^ m)) = some (powV A n) := fun m hm hlm => by
   subst hm
   rw [divide_Pow_4_eq, cond_false, wrap64 (by omega) (by omega)]
   exact divPow2 A n hA hn lA j (by omega) hlm
  rw [divide_Pow_2_eq, show (((j + 1 : Nat) : Int) - 1) = (j : Int) by omega, cT (decide_eq_true (by omega)), divide_Pow_3_eq, natMul _ _ (by omega) (by omega), Option.bind_some, val_nat, sq, bit_at n j hn (by omega)]
  by_cases hg : (nat (A ^ (2 * (n / 2 ^ (j + 1))))).length ≤ 1024
  ·rw [cF (by rw [decide_eq_true (by omega)]; rfl), cT (decide_eq_true (by omega))]
   have hb := Nat.mod_lt (n / 2 ^ j) (show 0 < 2 by decide)
   by_cases hbit : n / 2 ^ j % 2 = 1
   ·rw [hbit, cT (by rfl), divide_Pow_5_eq, natMul _ _ (by omega) (by omega), Option.bind_some, cond_true, cond_false, val_nat, val_nat, ← Nat.pow_succ, show (2 * (n / 2 ^ (j + 1))).succ = n / 2 ^ j by omega]
    by_cases hg2 : (nat (A ^ (n / 2 ^ j))).length ≤ 1024
    ·rw [decide_eq_true (by omega)]
     exact next _ rfl hg2
    ·rw [decide_eq_false (by omega), powV_big hA hle (by omega)]
     exact over _
   ·have hbit : n / 2 ^ j % 2 = 0 := by omega
    rw [hbit, cF (by rfl)]
    exact next _ (by omega) hg
  ·rw [cT (by rw [decide_eq_false (by omega)]; rfl), over, powV_big hA (by omega) (show (nat (A ^ (2 * (n / 2 ^ (j + 1))))).length > 1024 by omega)]
theorem powV_huge (A n : Nat) (hA : 2 ≤ A) (hn : 8192 < n) : powV A n = ([], 9) := by
 rw [powV, if_pos]
 rcases Nat.lt_or_ge 1024 (nat (A ^ n)).length with h | h
 ·exact h
 ·exfalso
  have hv := val_lt (nat (A ^ n))
  rw [val_nat, pow_256] at hv
  have h1 : 2 ^ n ≤ A ^ n := Nat.pow_le_pow_left hA n
  have h2 : 2 ^ (8 * (nat (A ^ n)).length) ≤ 2 ^ n := Nat.pow_le_pow_right (by decide) (by omega)
  omega
theorem divPow (a : List UInt8) (ha : a.length ≤ 1024) (n : Int) (hn : n ≤ 9000) : divide_Pow a n = some (powR (val a) n) := by
 have la := nat_val_length a
 have o1 : nat_Of 1 = some [1] := natOf 1 (by decide)
 rw [divide_Pow_eq, natTrim, Option.bind_some, powR]
 rcases neg_or n with h | ⟨k, rfl⟩
 ·rw [cT (decide_eq_true h), if_pos h]
 ·rw [cF (decide_eq_false (by omega)), if_neg (by omega)]
  by_cases h0 : k = 0
  ·subst h0
   rw [cT (by rfl), o1, if_pos (show ((0 : Nat) : Int) = 0 from rfl)]; rfl
  ·rw [cF (decide_eq_false (by omega)), if_neg (by omega)]
   by_cases hA : val a = 0
   ·rw [cT (decide_eq_true (nat_eq_nil.2 hA)), divide_Pow_1_eq, cond_true, if_pos (.inl hA)]
   ·rw [cF (decide_eq_false (fun e => hA (nat_eq_nil.1 e))), o1, Option.bind_some, divide_Pow_1_eq]
    by_cases h1 : val a = 1
    ·rw [cT (decide_eq_true (by rw [h1]; rfl)), if_pos (.inr h1)]
    ·rw [cF (decide_eq_false (fun e => h1 (by rw [← nat_one] at e; exact nat_inj.1 e))), if_neg (by omega), Int.toNat_natCast]
     by_cases h2 : (k : Int) > 8192
     ·rw [cT (decide_eq_true h2), powV_huge _ _ (by omega) (by omega)]
     ·have hb := (blen_bounds k).1
      have hl : math_bits_Len (IntKind.u64.wrap (k : Int)) = some ((blen k : Nat) : Int) := by
       refine (top_call ..).trans ?_
       show len64F _ = _
       unfold len64F
       rw [wrapU64 (by omega) (by omega), cT (by simp; omega), Int.toNat_natCast, bitLen_blen k (by omega)]
      have hb32 := blen_le k (by omega)
      have hz : k / 2 ^ blen k = 0 := Nat.div_eq_of_lt hb
      have := divPow2 (val a) k (by omega) (by omega) (by omega) (blen k) (by omega) (by rw [hz, Nat.pow_zero, nat_one]; simp)
      rw [hz, Nat.pow_zero, nat_one] at this
      rw [cF (decide_eq_false h2), o1, Option.bind_some, hl, Option.bind_some, wrap64 (by omega) (by omega)]
      exact this
theorem refPow2 (A n : Nat) (hA : 0 < A) (hn : n ≤ 9000) (lA : (nat A).length ≤ 1024) : ∀ (m i : Nat), i + m = n → (nat (A ^ i)).length ≤ 1024 → r02_Pow_2 (nat A) (n : Int) (nat (A ^ i)) (i : Int) = some (powV A n)
 | 0, i, hi, hl => by
  obtain rfl : i = n := by omega
  rw [r02_Pow_2_eq, cF (decide_eq_false (by omega)), powV, if_neg (by omega)]
 | m + 1, i, hi, hl => by
  rw [r02_Pow_2_eq, cT (decide_eq_true (by omega)), refMul _ _ (by omega) (by omega), Option.bind_some, val_nat, val_nat, ← Nat.pow_succ, wS (by omega)]
  by_cases hg : (nat (A ^ i.succ)).length > 1024
  ·rw [cT (decide_eq_true (by omega)), powV_big hA (by omega) hg]
  ·rw [cF (decide_eq_false (by omega))]
   exact refPow2 A n hA hn lA m (i + 1) (by omega) (Nat.le_of_not_lt hg)
theorem refPow (a : List UInt8) (ha : a.length ≤ 1024) (n : Int) (hn : n ≤ 9000) : r02_Pow a n = some (powR (val a) n) := by
 have la := nat_val_length a
 rw [r02_Pow_eq, powR]
 rcases neg_or n with h | ⟨k, rfl⟩
 ·rw [cT (decide_eq_true h), if_pos h]
 ·rw [cF (decide_eq_false (by omega)), if_neg (by omega), refTrim a (by omega), Option.bind_some]
  by_cases h0 : k = 0
  ·subst h0
   have z : r02_Pow_1 (nat (val a)) ((0 : Nat) : Int) true = some ([1], 0) := by rw [r02_Pow_1_eq, cond_true, cT (by rfl)]
   rw [if_pos (show ((0 : Nat) : Int) = 0 from rfl), cF (c := decide (((0 : Nat) : Int) > 0)) (by rfl), cT (c := decide (((0 : Nat) : Int) = 0)) (by rfl), z]
   cases decide (nat (val a) = []) <;> rfl
  ·rw [if_neg (by omega)]
   by_cases hA : val a = 0
   ·rw [cT (decide_eq_true (nat_eq_nil.2 hA)), cT (decide_eq_true (by omega)), r02_Pow_1_eq, cond_true, cF (decide_eq_false (by omega)), if_pos (.inl hA)]
   ·rw [cF (decide_eq_false (fun e => hA (nat_eq_nil.1 e))), cF (decide_eq_false (by omega)), r02_Pow_1_eq]
    by_cases h1 : val a = 1
    ·rw [cT (decide_eq_true (by rw [h1]; rfl)), cF (decide_eq_false (by omega)), if_pos (.inr h1)]
    ·have := refPow2 (val a) k (by omega) (by omega) (by omega) k 0 (Nat.zero_add _) (by rw [Nat.pow_zero, nat_one]; simp)
     rw [Nat.pow_zero, nat_one] at this
     rw [cF (decide_eq_false (fun e => h1 (by rw [← nat_one] at e; exact nat_inj.1 e))), if_neg (by omega), Int.toNat_natCast]
     exact this
theorem refBits1 : ∀ (f c n : Nat), c ≤ f → n + c ≤ 1000000000000 → r01_Bits_1 (n : Int) (c : Int) = some ((n + blen c : Nat) : Int)
 | f, c, n, hf, hn => by
  by_cases h0 : c = 0
  ·subst h0; rw [r01_Bits_1_eq, cF (by rfl), blen_zero]; rfl
  ·match f with
   | 0 => omega
   | f + 1 =>
    have e : ((c : Int).fdiv (2 ^ min 1 IntKind.u8.bits)) = ((c / 2 : Nat) : Int) := by
     rw [show (2 : Int) ^ min 1 IntKind.u8.bits = 2 from rfl, fd (by omega)]; omega
    rw [r01_Bits_1_eq, cT (decide_eq_true (by omega)), cT (by rfl), e, wS (by omega), refBits1 f (c / 2) (n + 1) (by omega) (by omega), blen_pos h0]
    congr 2; omega
theorem refBits (a : List UInt8) (h : a.length ≤ 1000000000) : r01_Bits a = some ((blen (val a) : Nat) : Int) := by
 have hl := nat_val_length a
 rw [r01_Bits_eq, refTrim a (by omega), Option.bind_some]
 cases hs : nat (val a) with
 | nil => rw [cT (by rfl), nat_eq_nil.1 hs, blen_zero]; rfl
 | cons b l =>
  rw [hs] at hl
  simp only [List.length_cons] at hl
  have hb : b.toNat ≠ 0 := fun e => nat_head _ _ _ hs (UInt8.toNat_inj.1 e)
  have hv : val a = b.toNat * 256 ^ l.length + val l := by rw [← val_nat (val a), hs, val_cons]
  have hlt := val_lt l
  have hd : val a / 2 ^ (8 * l.length) = b.toNat := by
   rw [← pow_256, hv, Nat.add_comm, Nat.add_mul_div_right _ _ (Nat.pow_pos (by decide)), Nat.div_eq_of_lt hlt, Nat.zero_add]
  have hge : 2 ^ (8 * l.length) ≤ val a := by
   rw [← pow_256, hv]
   exact Nat.le_trans (Nat.le_mul_of_pos_left _ (by omega)) (Nat.le_add_right _ _)
  have hsh := blen_shift _ _ hge
  rw [hd] at hsh
  have h256 := b.toNat_lt
  have hr := refBits1 b.toNat b.toNat (8 * l.length) (Nat.le_refl _) (by omega)
  rw [cF (by rfl), cT (by simp), List.getD_cons_zero, List.length_cons, wrap64 (n := ((l.length + 1 : Nat) : Int) - 1) (by omega) (by omega), wrap64 (by omega) (by omega), show 8 * (((l.length + 1 : Nat) : Int) - 1) = ((8 * l.length : Nat) : Int) by omega, hr, hsh]
  congr 2; omega
end Go.Proofs.YtgnkkanhjghhfaaGreatDoor.P
namespace Go.Proofs.YtgnkkanhjghhfaaGreatDoor.Q
open Go Go.Proofs.YtgnkkanhjghhfaaGreatDoor.K Go.Proofs.YtgnkkanhjghhfaaGreatDoor.C Go.Proofs.YtgnkkanhjghhfaaGreatDoor.P
def ok3 (s : List UInt8) : Bool := Nat.ble s.length 1000
def cmpQ (y : List UInt8 × List UInt8) : Option Int := cond (ok1 y.1 && ok1 y.2) (some (sgnv (val y.1) (val y.2))) none
def gcdQ (y : List UInt8 × List UInt8) : Option (List UInt8) := cond (ok3 y.1 && ok3 y.2) (some (nat (Nat.gcd (val y.1) (val y.2)))) none
def powQ (y : List UInt8 × Int) : Option (List UInt8 × Int) := cond (ok3 y.1 && decide (y.2 ≤ 9000)) (some (powR (val y.1) y.2)) none
def bitsQ (s : List UInt8) : Option Int := cond (ok1 s) (some ((blen (val s) : Nat) : Int)) none
theorem le9 (n : Int) (h : decide (n ≤ 9000) = true) : n ≤ 9000 := of_decide_eq_true h
theorem ok3_le {s : List UInt8} (h : ok3 s = true) : s.length ≤ 1000 := Nat.le_of_ble_eq_true h
theorem ok33_le {a b : List UInt8} (h : (ok3 a && ok3 b) = true) : a.length ≤ 1000 ∧ b.length ≤ 1000 := by
 rw [Bool.and_eq_true] at h
 exact ⟨ok3_le h.1, ok3_le h.2⟩
variable {inv : World → Prop} (hi : ∀ w, inv w → MaxLen w)
include hi
theorem cmp_ok : CallT Tryz.prog 140 [.str, .str] [.int .i64] inv cmpQ := call_of (i := 140) (by kernel_rfl) (g := cmpQ) (fun y r h => by
 obtain ⟨hc, rfl⟩ := cond_some h
 obtain ⟨h1, h2⟩ := ok2_le hc
 exact natCmp y.1 y.2 (by omega) (by omega)) hi
theorem gcd_ok : CallT Tryz.prog 109 [.str, .str] [.str] inv gcdQ := call_of (i := 109) (by kernel_rfl) (g := gcdQ) (fun y r h => by
 obtain ⟨hc, rfl⟩ := cond_some h
 obtain ⟨h1, h2⟩ := ok33_le hc
 exact divGcd y.1 y.2 (by omega) (by omega)) hi
theorem rgcd_ok : CallT Tryz.prog 73 [.str, .str] [.str] inv gcdQ := call_of (i := 73) (by kernel_rfl) (g := gcdQ) (fun y r h => by
 obtain ⟨hc, rfl⟩ := cond_some h
 obtain ⟨h1, h2⟩ := ok33_le hc
 exact refGcd y.1 y.2 h1 h2) hi
theorem pow_ok : CallT Tryz.prog 127 [.str, .int .i64] [.str, .int .i64] inv powQ := call_of (i := 127) (by kernel_rfl) (g := powQ) (fun y r h => by
 obtain ⟨hc, rfl⟩ := cond_some h
 rw [Bool.and_eq_true] at hc
 have h1 := ok3_le hc.1
 exact divPow y.1 (by omega) y.2 (le9 _ hc.2)) hi
theorem rpow_ok : CallT Tryz.prog 100 [.str, .int .i64] [.str, .int .i64] inv powQ := call_of (i := 100) (by kernel_rfl) (g := powQ) (fun y r h => by
 obtain ⟨hc, rfl⟩ := cond_some h
 rw [Bool.and_eq_true] at hc
 have h1 := ok3_le hc.1
 exact refPow y.1 (by omega) y.2 (le9 _ hc.2)) hi
theorem rbits_ok : CallT Tryz.prog 75 [.str] [.int .i64] inv bitsQ := call_of (i := 75) (by kernel_rfl) (g := bitsQ) (fun y r h => by
 obtain ⟨hc, rfl⟩ := cond_some h
 exact refBits y (ok1_le hc)) hi
end Go.Proofs.YtgnkkanhjghhfaaGreatDoor.Q
