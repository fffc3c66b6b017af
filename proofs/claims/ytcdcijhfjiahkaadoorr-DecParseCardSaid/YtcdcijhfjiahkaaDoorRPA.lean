/- The program's naturals (nat): what each function answers. -/
import Derived.Test.YtcdcijhfjiahkaaDoorRC1
import Derived.Test.YtcdcijhfjiahkaaDoorRPN
set_option linter.unusedVariables false
set_option linter.unusedSimpArgs false
namespace Go.Proofs.YtcdcijhfjiahkaaDoorR.P
open Go Go.Proofs.YtcdcijhfjiahkaaDoorR.K Go.Proofs.YtcdcijhfjiahkaaDoorR.C
/-! ### words of the machine -/
theorem wS {i : Nat} (h : i + 1 ≤ 9223372036854775807) : IntKind.i64.wrap ((i : Int) + 1) = ((i + 1 : Nat) : Int) := wrap64 (by omega) (by omega)
theorem wA {a b : Nat} (h : a + b ≤ 9223372036854775807) : IntKind.i64.wrap ((a : Int) + (b : Int)) = ((a + b : Nat) : Int) := by rw [wrap64 (by omega) (by omega)]; omega
theorem wD {a b : Nat} (h : b ≤ a) (h' : a ≤ 9223372036854775807) : IntKind.i64.wrap ((a : Int) - (b : Int)) = ((a - b : Nat) : Int) := by rw [wrap64 (by omega) (by omega)]; omega
theorem wraps_u32 (n : Int) (h₀ : 0 ≤ n) (h₁ : n < 2 ^ 32) : IntKind.u32.wrap n = n := wrapU32 h₀ (by omega)
theorem wraps_u64 (n : Int) (h₀ : 0 ≤ n) (h₁ : n < 2 ^ 64) : IntKind.u64.wrap n = n := wrapU64 h₀ (by omega)
theorem wraps_i64 (n : Int) (h₀ : 0 ≤ n) (h₁ : n < 2 ^ 63) : IntKind.i64.wrap n = n := wrap64 (by omega) (by omega)
theorem mod_u32 (n : Int) : IntKind.u32.wrap n = n % 4294967296 := by simp [IntKind.wrap, IntKind.bits, IntKind.signed]
theorem mod_u64 (n : Int) : IntKind.u64.wrap n = n % 18446744073709551616 := by simp [IntKind.wrap, IntKind.bits, IntKind.signed]
theorem mod_u8 (n : Int) : IntKind.u8.wrap n = n % 256 := by simp [IntKind.wrap, IntKind.bits, IntKind.signed]
theorem bitop_or (k : IntKind) (x y : Int) : bitop .or k x y = Go.bits .or k x y := rfl
theorem bitop_and (k : IntKind) (x y : Int) : bitop .and k x y = Go.bits .and k x y := rfl
theorem or_u32 (x y : Int) (h0 : 0 ≤ x) (h1 : x < 16777216) (h2 : 0 ≤ y) (h3 : y < 256) : bitop .or .u32 (IntKind.u32.wrap (x * 2 ^ min 8 IntKind.u32.bits)) (IntKind.u32.wrap y) = x * 256 + y := by
  rw [show (2 : Int) ^ min 8 IntKind.u32.bits = 256 from rfl, wrapU32 (by omega) (by omega), wrapU32 (by omega) (by omega)]
  exact bits_join .u32 32 (by decide) wraps_u32 8 (x * 256) y (by omega) (by omega) (by omega) h2 (by omega) (by omega)
theorem or_u64 (x y : Int) (i : Nat) (h0 : 0 ≤ x) (hx : x % 2 ^ i = 0) (h1 : x < 18446744073709551616) (h2 : 0 ≤ y) (h3 : y < 2 ^ i) (h4 : y < 18446744073709551616) : bitop .or .u64 x y = x + y :=
  bits_join .u64 64 (by decide) wraps_u64 i x y h0 hx (by omega) h2 h3 (by omega)
theorem and_u64 (x : Int) (h0 : 0 ≤ x) (h1 : x < 18446744073709551616) : bitop .and .u64 x 255 = x % 256 :=
  bits_mask .u64 64 (by decide) wraps_u64 8 (by decide) x h0 (by omega)
theorem and_u64w (x : Int) (h0 : 0 ≤ x) (h1 : x < 18446744073709551616) : bitop .and .u64 x 4294967295 = x % 4294967296 :=
  bits_mask .u64 64 (by decide) wraps_u64 32 (by decide) x h0 (by omega)
theorem and_i64 (x : Int) (h0 : 0 ≤ x) (h1 : x < 9223372036854775808) : bitop .and .i64 x 255 = x % 256 :=
  bits_mask .i64 63 (by decide) wraps_i64 8 (by decide) x h0 (by omega)
theorem p32 : (2 : Int) ^ min 32 IntKind.u64.bits = 4294967296 := rfl
theorem fd {a : Int} {b : Int} (hb : 0 < b) : a.fdiv b = a / b := Int.fdiv_eq_ediv_of_nonneg a (by omega)
theorem room (n m k : Nat) (h : (n + m) * k ≤ 140737488355328) : Nat.ble ((n + m) * k) 140737488355328 = true := Nat.ble_eq_true_of_le h
theorem inC {a b : Nat} (h : a ≤ b) : (decide (0 ≤ (a : Int)) && decide ((a : Int) ≤ (b : Int))) = true := by simp; omega
theorem inC3 {a b c : Nat} (h : a ≤ b) (h' : b ≤ c) : (decide (0 ≤ (a : Int)) && (decide ((a : Int) ≤ (b : Int)) && decide ((b : Int) ≤ (c : Int)))) = true := by simp; omega
/-! ### nat -/
theorem natTrim (s : List UInt8) : nat_Trim s = some (nat (val s)) := by
  rw [nat_Trim_eq, show strings_TrimLeft s [0] = some (Lib.trimLeftB s 0) from (top_call ..).trans rfl, trimB]; rfl
theorem natCut1 : ∀ (n : Nat) (l : List Int), l.length = n → l.length ≤ 9223372036854775807 → Ok 4294967296 l → nat_limbs_cut_1 l = some (limbs (W 4294967296 l))
  | 0, l, h, _, _ => by
    obtain rfl : l = [] := List.eq_nil_of_length_eq_zero h
    rw [nat_limbs_cut_1_eq, decide_eq_false (by simp), cond_false, nat_limbs_cut_2_eq, W, limbs_zero]; rfl
  | n + 1, l, h, hl, ho => by
    obtain ⟨a, x, rfl⟩ : ∃ a x, l = a ++ [x] := ⟨l.dropLast, l.getLast (by rintro rfl; simp at h), (List.dropLast_concat_getLast _).symm⟩
    have ha : a.length = n := by simpa using h
    have hw : IntKind.i64.wrap ((((a ++ [x] : List Int).length : Nat) : Int) - 1) = (n : Int) := by rw [show ((((a ++ [x] : List Int).length : Nat) : Int) - 1) = (n : Int) by simp [ha]]; exact wrap64 (by omega) (by simp at hl; omega)
    have oa : Ok 4294967296 a := fun y hy => ho y (by simp [hy])
    have ox := ho x (by simp)
    rw [nat_limbs_cut_1_eq, decide_eq_true (show (((a ++ [x]).length : Nat) : Int) > 0 by rw [h]; omega), cond_true, hw, show (decide (0 ≤ (n : Int)) && decide ((n : Int) < ((a ++ [x]).length : Int))) = true by simp [ha]; omega, cond_true, Int.toNat_natCast,
      show (a ++ [x]).getD n 0 = x by rw [← ha]; simp, nat_limbs_cut_2_eq, hw, show (decide (0 ≤ (n : Int)) && decide ((n : Int) ≤ ((a ++ [x]).length : Int))) = true by simp [ha]; omega, cond_true, Int.toNat_natCast,
      show (a ++ [x]).take n = a by rw [← ha]; simp]
    by_cases hx : x = 0
    · subst hx
      rw [decide_eq_true rfl, cond_true, natCut1 n a ha (by simp at hl; omega) oa, W_snoc]
      simp
    · rw [decide_eq_false hx, cond_false, ← cutW_limbs ho, cutW_snoc a x hx]
theorem natCut (l : List Int) (hl : l.length ≤ 9223372036854775807) (ho : Ok 4294967296 l) : nat_limbs_cut l = some (limbs (W 4294967296 l)) := (nat_limbs_cut_eq l).trans (natCut1 _ l rfl hl ho)
theorem cutZ_limbs {l : List Int} (ho : Ok 4294967296 l) : H.cutZ l = limbs (W 4294967296 l) := by
  rw [← cutW_limbs ho]
  clear ho
  induction l with
  | nil => rfl
  | cons a l ih =>
    rw [H.cutZ, cutW, ih]
    cases cutW l with
    | nil => by_cases h : a = 0 <;> simp [h]
    | cons b m => simp
theorem be4_ok (l : List Int) (h : Ok 4294967296 l) : val (bytesOf (H.be4 l.reverse)) = W 4294967296 l := by
  induction l with
  | nil => rfl
  | cons a l ih =>
    have ha := h a (List.mem_cons_self ..)
    have ih := ih (fun x hx => h x (List.mem_cons_of_mem _ hx))
    have e : bytesOf (H.be4 (a :: l).reverse) = bytesOf (H.be4 l.reverse) ++ bytesOf [a / 16777216 % 256, a / 65536 % 256, a / 256 % 256, a % 256] := by
      rw [List.reverse_cons, H.HtextNat.be4_snoc]; simp [bytesOf]
    have b1 : ∀ x : Int, (UInt8.ofNat (x % 256).toNat).toNat = (x % 256).toNat := fun x => UInt8.toNat_ofNat_of_lt' (by show _ < 256; omega)
    rw [e, val_append, ih, W]
    simp only [bytesOf, List.map_cons, List.map_nil, val_cons, val_nil, List.length_cons, List.length_nil, b1]
    omega
theorem natText (l : List Int) (hl : l.length ≤ 1099511627776) (ho : Ok 4294967296 l) : nat_limbs_text l = some (nat (W 4294967296 l)) := by
  refine (top_call ..).trans ?_
  show H.textF l = _
  have h1 := limbs_le (W_lt ho)
  unfold H.textF
  rw [cutZ_limbs ho, show (decide (l.length ≤ 9223372036854775807) && decide ((limbs (W 4294967296 l)).length * 4 ≤ 140737488355328)) = true by simp; omega, cond_true, trimB, be4_ok _ (limbs_ok _), W_limbs]
/-- The digits of a text, four bytes at a time. -/
theorem natRead2 (s : List UInt8) (fr : Nat) (acc : List Int) (c : List UInt8) (hc : c.length ≤ 4) : ∀ (m i : Nat), i + m = c.length →
    nat_read_2 s (fr : Int) ((val (c.take i) : Nat) : Int) (c.map fun b => (b.toNat : Int)) (c.length : Int) (i : Int) acc = nat_read_2 s (fr : Int) ((val c : Nat) : Int) (c.map fun b => (b.toNat : Int)) (c.length : Int) (c.length : Int) acc
  | 0, i, h => by
    obtain rfl : i = c.length := by omega
    rw [List.take_length]
  | m + 1, i, h => by
    have hi : i < c.length := by omega
    have hv := val_lt (c.take i)
    have hp : 256 ^ (c.take i).length ≤ 256 ^ 3 := Nat.pow_le_pow_right (by decide) (by simp; omega)
    have hb := (c[i]).toNat_lt
    have hg : (c.map fun b => (b.toNat : Int)).getD (i : Int).toNat 0 = ((c[i]).toNat : Int) := by simp [List.getD, hi]
    rw [nat_read_2_eq, decide_eq_true (show (i : Int) < (c.length : Int) by omega), cond_true, show (decide (0 ≤ (i : Int)) && decide ((i : Int) < (((c.map fun b => (b.toNat : Int)).length : Nat) : Int))) = true by rw [List.length_map]; exact ix hi, cond_true, decide_eq_true (by decide), cond_true, hg,
      or_u32 _ _ (by omega) (by omega) (by omega) (by omega), wS (by omega)]
    have e : ((val (c.take i) : Nat) : Int) * 256 + ((c[i]).toNat : Int) = ((val (c.take (i + 1)) : Nat) : Int) := by
      rw [List.take_add_one, List.getElem?_eq_getElem hi]
      simp only [Option.toList_some, val_snoc]
      omega
    rw [e]
    exact natRead2 s fr acc c hc m (i + 1) (by omega)
theorem natRead1 : ∀ (n : Nat) (s : List UInt8) (acc : List Int), s.length ≤ n → s.length + 4 * acc.length ≤ 4398046511104 → Ok 4294967296 acc → (acc ≠ [] → True) →
    nat_read_1 s acc = some (limbs (W 4294967296 acc + 4294967296 ^ acc.length * val s))
  | 0, s, acc, h, hl, ho, _ => by
    obtain rfl : s = [] := List.eq_nil_of_length_eq_zero (by omega)
    rw [nat_read_1_eq, decide_eq_false (by simp), cond_false, natCut acc (by omega) ho, val_nil]
    simp
  | n + 1, s, acc, h, hl, ho, _ => by
    by_cases h0 : s.length = 0
    · obtain rfl : s = [] := List.eq_nil_of_length_eq_zero h0
      rw [nat_read_1_eq, decide_eq_false (by simp), cond_false, natCut acc (by omega) ho, val_nil]
      simp
    · have hw : max 0 (IntKind.i64.wrap ((s.length : Int) - 4)) = ((s.length - 4 : Nat) : Int) := by rw [wrap64 (by omega) (by omega)]; omega
      have hcl : (s.drop (s.length - 4)).length ≤ 4 := by simp; omega
      have hin : (decide (0 ≤ ((s.length - 4 : Nat) : Int)) && decide (((s.length - 4 : Nat) : Int) ≤ (s.length : Int))) = true := inC (by omega)
      have hv := val_lt (s.drop (s.length - 4))
      have hp : 256 ^ (s.drop (s.length - 4)).length ≤ 256 ^ 4 := Nat.pow_le_pow_right (by decide) hcl
      rw [nat_read_1_eq, decide_eq_true (show (s.length : Int) > 0 by omega), cond_true, hw, hin, cond_true, Int.toNat_natCast, List.length_map]
      have hr := natRead2 s (s.length - 4) acc (s.drop (s.length - 4)) hcl _ 0 (Nat.zero_add _)
      rw [List.take_zero, val_nil] at hr
      refine Eq.trans hr ?_
      rw [nat_read_2_eq, decide_eq_false (by omega), cond_false, room _ _ _ (by simp; omega), cond_true, hin, cond_true, Int.toNat_natCast,
        natRead1 n _ _ (by simp; omega) (by simp; omega) (ho.snoc (by omega) (by omega)) (fun _ => trivial)]
      congr 2
      rw [W_snoc, Int.toNat_natCast, List.length_append, List.length_cons, List.length_nil]
      have hs : val s = val (s.take (s.length - 4)) * 256 ^ (s.drop (s.length - 4)).length + val (s.drop (s.length - 4)) := by rw [← val_append, List.take_append_drop]
      rw [hs]
      by_cases h4 : s.length ≤ 4
      · rw [show s.length - 4 = 0 by omega, List.take_zero, val_nil]
        simp
      · rw [show (s.drop (s.length - 4)).length = 4 by simp; omega, Nat.pow_succ, show 256 ^ 4 = 4294967296 by decide]
        generalize 4294967296 ^ acc.length = Q
        rw [Nat.mul_add, Nat.mul_comm (val (s.take (s.length - 4))), Nat.mul_assoc]
        omega
theorem natRead (s : List UInt8) (h : s.length ≤ 4398046511104) : nat_read s = some (limbs (val s)) := by
  rw [nat_read_eq, natRead1 s.length s [] (Nat.le_refl _) (by simpa using h) (Ok.nil _) (fun h => absurd rfl h)]
  simp [W]
theorem natAt (l : List Int) (ho : Ok 4294967296 l) (i : Nat) : nat_limbs_at l (i : Int) = some (l.getD i 0) := by
  rw [nat_limbs_at_eq]
  by_cases h : i < l.length
  · have := ho.getD (by decide) i
    rw [decide_eq_false (by omega), cond_false, ix h, cond_true, Int.toNat_natCast, wrapU64 (by omega) (by omega)]
  · rw [decide_eq_true (by omega), cond_true, List.getD_eq_getElem?_getD, List.getElem?_eq_none (by omega)]; rfl
theorem natOf (n : Nat) (h : n < 18446744073709551616) : nat_Of (n : Int) = some (nat n) := by
  have h1 : IntKind.u32.wrap (n : Int) = ((n % 4294967296 : Nat) : Int) := by rw [mod_u32]; omega
  have h2 : IntKind.u32.wrap ((n : Int).fdiv (2 ^ min 32 IntKind.u64.bits)) = ((n / 4294967296 : Nat) : Int) := by rw [p32, fd (by omega), wrapU32 (by omega) (by omega)]; omega
  rw [nat_Of_eq, decide_eq_true (by decide), cond_true, h1, h2, natText _ (by simp) (((Ok.nil _).cons (by omega) (by omega)).cons (by omega) (by omega))]
  simp only [Option.bind_some, W, Int.toNat_natCast]
  congr 2
  omega
def small (n : Nat) : Int × Bool := if n < 18446744073709551616 then ((n : Int), true) else (0, false)
theorem natSmall (s : List UInt8) (h : s.length ≤ 4398046511104) : nat_Small s = some (small (val s)) := by
  rw [nat_Small_eq, natRead s h, Option.bind_some]
  by_cases h2 : (limbs (val s)).length > 2
  · have : ¬ val s < 18446744073709551616 := fun hh => by
      have := limbs_le (n := val s) (k := 2) (by simpa using hh)
      omega
    rw [decide_eq_true (by omega), cond_true, small, if_neg this]
  · have h3 := lt_limbs (val s)
    have h4 : 4294967296 ^ (limbs (val s)).length ≤ 4294967296 ^ 2 := Nat.pow_le_pow_right (by decide) (by omega)
    have h5 : val s < 18446744073709551616 := by omega
    have a0 : nat_limbs_at (limbs (val s)) 0 = some ((limbs (val s)).getD 0 0) := natAt _ (limbs_ok _) 0
    have a1 : nat_limbs_at (limbs (val s)) 1 = some ((limbs (val s)).getD 1 0) := natAt _ (limbs_ok _) 1
    rw [decide_eq_false (by omega), cond_false, a1, Option.bind_some, decide_eq_true (by decide), cond_true, a0, Option.bind_some, limbs_getD, limbs_getD, p32, small, if_pos h5]
    rw [wrapU64 (by omega) (by omega), or_u64 _ _ 32 (by omega) (by omega) (by omega) (by omega) (by omega) (by omega)]
    congr 2
    simp only [Nat.pow_zero, Nat.pow_one, Nat.div_one]
    omega
end Go.Proofs.YtcdcijhfjiahkaaDoorR.P
