/- Part 7 of the proof: the machine, the tables and the pure laws that the last text joins. -/
import Derived.Test.YtodfaihlddiokaaGreatDoorZ6
import Derived.Lib.IndexBytes
import Derived.Test.YtodfaihlddiokaaGreatDoorZ4
/- Decimal digits: plain Lean; the program's and the reference's. -/
set_option linter.unusedVariables false
set_option linter.unusedSimpArgs false
namespace Go.Proofs.YtodfaihlddiokaaGreatDoor.P
open Go Go.Proofs.YtodfaihlddiokaaGreatDoor.Q
def dv (l : List UInt8) : Nat := l.foldl (fun n c => n * 10 + (c.toNat - 48)) 0
theorem dv_nil : dv [] = 0 := rfl
theorem dv_snoc (l : List UInt8) (c : UInt8) : dv (l ++ [c]) = dv l * 10 + (c.toNat - 48) := by unfold dv; rw [List.foldl_append]; rfl
theorem snocU {Q : List UInt8 → Prop} (h0 : Q []) (h1 : ∀ l b, Q l → Q (l ++ [b])) : ∀ l, Q l := by
  intro l
  have : Q l.reverse.reverse := by
    induction l.reverse with
    | nil => exact h0
    | cons b l ih => rw [List.reverse_cons]; exact h1 _ _ ih
  rwa [List.reverse_reverse] at this
theorem dv_append (a : List UInt8) : ∀ b, dv (a ++ b) = dv a * 10 ^ b.length + dv b := by
  refine snocU ?_ ?_
  · simp [dv_nil]
  · intro l c ih
    rw [← List.append_assoc, dv_snoc, ih, dv_snoc, List.length_append, List.length_cons, List.length_nil, Nat.pow_succ]
    generalize 10 ^ l.length = X
    rw [Nat.add_mul, Nat.mul_assoc]; omega
theorem dv_cons (c : UInt8) (l : List UInt8) : dv (c :: l) = (c.toNat - 48) * 10 ^ l.length + dv l := by
  have := dv_append [c] l
  simpa [dv] using this
def dig (c : UInt8) : Bool := decide (48 ≤ c.toNat) && decide (c.toNat ≤ 57)
def good (l : List UInt8) : Bool := l.all dig
theorem dig_le {c : UInt8} (h : dig c = true) : 48 ≤ c.toNat ∧ c.toNat ≤ 57 := by
  unfold dig at h
  simpa using h
theorem dv_lt (l : List UInt8) (h : good l = true) : dv l < 10 ^ l.length := by
  revert h
  refine snocU (Q := fun l => good l = true → dv l < 10 ^ l.length) ?_ ?_ l
  · intro _; simp [dv_nil]
  · intro l c ih h
    have h1 : good l = true ∧ dig c = true := by simpa [good] using h
    have h2 := ih h1.1
    have h3 := dig_le h1.2
    rw [dv_snoc, List.length_append, List.length_cons, List.length_nil, Nat.pow_succ]
    omega
def ten (n : Nat) : List UInt8 := if h : n = 0 then [] else ten (n / 10) ++ [UInt8.ofNat (48 + n % 10)]
termination_by n
decreasing_by omega
theorem ten_zero : ten 0 = [] := by rw [ten]; simp
theorem ten_pos {n : Nat} (h : n ≠ 0) : ten n = ten (n / 10) ++ [UInt8.ofNat (48 + n % 10)] := by rw [ten]; simp [h]
theorem ten_nil {n : Nat} : ten n = [] ↔ n = 0 := by
  constructor
  · intro h
    rcases Nat.eq_zero_or_pos n with h0 | h0
    · exact h0
    · rw [ten_pos (by omega)] at h
      simp at h
  · rintro rfl; exact ten_zero
theorem byte48 (n : Nat) : (UInt8.ofNat (48 + n % 10)).toNat = 48 + n % 10 := UInt8.toNat_ofNat_of_lt' (by show _ < 256; omega)
theorem byte_back {c : UInt8} (h : dig c = true) : UInt8.ofNat (48 + (c.toNat - 48) % 10) = c := by
  have := dig_le h
  apply UInt8.toNat_inj.1
  rw [byte48]
  omega
theorem trim_snoc (l : List UInt8) (c : UInt8) : Lib.trimLeftB (l ++ [c]) 48 = if Lib.trimLeftB l 48 = [] then (if c = 48 then [] else [c]) else Lib.trimLeftB l 48 ++ [c] := by
  unfold Lib.trimLeftB
  induction l with
  | nil => by_cases h : c = 48 <;> simp [List.dropWhile_cons, h]
  | cons a l ih =>
    simp only [List.cons_append, List.dropWhile_cons]
    split
    · exact ih
    · simp
theorem trim_ten (l : List UInt8) (h : good l = true) : Lib.trimLeftB l 48 = ten (dv l) := by
  revert h
  refine snocU (Q := fun l => good l = true → Lib.trimLeftB l 48 = ten (dv l)) ?_ ?_ l
  · intro _; rw [dv_nil, ten_zero]; rfl
  · intro l c ih h
    have h1 : good l = true ∧ dig c = true := by simpa [good] using h
    have h2 := ih h1.1
    have h3 := dig_le h1.2
    have h4 := byte_back h1.2
    rw [trim_snoc, h2, dv_snoc]
    by_cases hz : dv l = 0
    · rw [hz, ten_zero, if_pos rfl]
      by_cases hc : c = 48
      · subst hc; rw [if_pos rfl]; exact ten_zero.symm
      · have hc2 : c.toNat ≠ 48 := fun e => hc (UInt8.toNat_inj.1 e)
        rw [if_neg hc, ten_pos (by omega), show (0 * 10 + (c.toNat - 48)) / 10 = 0 by omega, ten_zero, show (0 * 10 + (c.toNat - 48)) % 10 = (c.toNat - 48) % 10 by omega, h4]; rfl
    · rw [if_neg (fun e => hz (ten_nil.1 e)), ten_pos (n := dv l * 10 + (c.toNat - 48)) (by omega), show (dv l * 10 + (c.toNat - 48)) / 10 = dv l by omega, show (dv l * 10 + (c.toNat - 48)) % 10 = (c.toNat - 48) % 10 by omega, h4]
theorem dig48 (n : Nat) : dig (UInt8.ofNat (48 + n % 10)) = true := by
  unfold dig
  rw [byte48]
  simp; omega
def decT (n : Nat) : List UInt8 := if n = 0 then [48] else ten n
theorem ten_good (n : Nat) : good (ten n) = true := by
  induction n using Nat.strongRecOn with
  | _ n ih =>
    by_cases h : n = 0
    · subst h; rw [ten_zero]; rfl
    · have := ih (n / 10) (by omega)
      unfold good at *
      rw [ten_pos h, List.all_append, this]; simp only [List.all_cons, List.all_nil, dig48, Bool.and_true]
theorem ten_dv (n : Nat) : dv (ten n) = n := by
  induction n using Nat.strongRecOn with
  | _ n ih =>
    by_cases h : n = 0
    · subst h; rw [ten_zero]; rfl
    · rw [ten_pos h, dv_snoc, ih (n / 10) (by omega), byte48]; omega
theorem ten_len {k : Nat} : ∀ {n : Nat}, n < 10 ^ k → (ten n).length ≤ k := by
  induction k with
  | zero => intro n h; have : n = 0 := by simpa using h
            subst this; rw [ten_zero]; exact Nat.le_refl _
  | succ k ih =>
    intro n h
    by_cases h0 : n = 0
    · subst h0; rw [ten_zero]; exact Nat.zero_le _
    · have := ih (n := n / 10) (by rw [Nat.pow_succ] at h; omega)
      rw [ten_pos h0, List.length_append]; simp; omega
theorem decT_good (n : Nat) : good (decT n) = true := by
  unfold decT
  split
  · rfl
  · exact ten_good n
theorem decT_dv (n : Nat) : dv (decT n) = n := by
  unfold decT
  split
  · rename_i h; subst h; rfl
  · exact ten_dv n
theorem decT_ne (n : Nat) : decT n ≠ [] := by
  unfold decT
  split
  · simp
  · rename_i h; exact fun e => h (ten_nil.1 e)
theorem decT_len {k n : Nat} (h : n < 10 ^ k) (hk : 1 ≤ k) : (decT n).length ≤ k := by
  unfold decT
  split
  · exact hk
  · exact ten_len h
theorem decT_len2 {a b n : Nat} (h : n < 10 ^ a * 10 ^ b) (hk : 1 ≤ a + b) : (decT n).length ≤ a + b := decT_len (by rw [Nat.pow_add]; exact h) hk
theorem decT_150 {n : Nat} (h : n < 256 ^ 75 * 256 ^ 75) : (decT n).length ≤ 400 := by
  have h1 : (256 : Nat) ^ 75 ≤ 10 ^ 200 := Nat.le_of_ble_eq_true rfl
  exact decT_len2 (a := 200) (b := 200) (Nat.lt_of_lt_of_le h (Nat.mul_le_mul h1 h1)) (by omega)
theorem nat_ten_len {n k : Nat} (h : n < 10 ^ k) : (nat n).length ≤ k := nat_length_le (Nat.lt_of_lt_of_le h (Nat.pow_le_pow_left (by decide) k))
end Go.Proofs.YtodfaihlddiokaaGreatDoor.P
namespace Go.Proofs.YtodfaihlddiokaaGreatDoor.D
open Go Go.Proofs.YtodfaihlddiokaaGreatDoor.K
open Go.Proofs.YtodfaihlddiokaaGreatDoor.P (nat val dv good dig dig_le ten ten_zero ten_pos ten_nil ten_len ten_good ten_dv decT decT_good decT_dv decT_ne decT_len decT_150 trim_ten dv_nil dv_snoc dv_append dv_cons dv_lt divmod small val_nat nat_zero nat_eq_nil nat_val_length nat_length_le len_mono val_lt wS nat_ten_len val_one)
open Go.Proofs.YtodfaihlddiokaaGreatDoor.Q (trimQ ofQ smallQ addQ mulQ divQ ok1)
theorem ok_le {s : List UInt8} (h : s.length ≤ 1000000000) : ok1 s = true := Nat.ble_eq_true_of_le h
theorem xTrim (s : List UInt8) (h : s.length ≤ 1000000000) : nat_Trim s = some (nat (val s)) := by
  refine (top_call ..).trans ?_
  show trimQ s = _
  unfold trimQ
  rw [ok_le h, cond_true, P.trimB]
theorem yTrim (s : List UInt8) (h : s.length ≤ 1000000000) : abacistref01_Trim s = some (nat (val s)) := by
  refine (top_call ..).trans ?_
  show trimQ s = _
  unfold trimQ
  rw [ok_le h, cond_true, P.trimB]
theorem ofQ_eq (n : Nat) (h : n < 18446744073709551616) : ofQ (n : Int) = some (nat n) := by
  unfold ofQ
  rw [show (decide ((0 : Int) ≤ (n : Int)) && decide ((n : Int) < 18446744073709551616)) = true by simp; omega, cond_true, Int.toNat_natCast]
theorem xOf (n : Nat) (h : n < 18446744073709551616) : nat_Of (n : Int) = some (nat n) := (top_call ..).trans (ofQ_eq n h)
theorem yOf (n : Nat) (h : n < 18446744073709551616) : abacistref01_Of (n : Int) = some (nat n) := (top_call ..).trans (ofQ_eq n h)
theorem ok2 {a b : List UInt8} (ha : a.length ≤ 1000000000) (hb : b.length ≤ 1000000000) : (ok1 a && ok1 b) = true := by rw [ok_le ha, ok_le hb]; rfl
theorem addQ_eq (a b : List UInt8) (ha : a.length ≤ 1000000000) (hb : b.length ≤ 1000000000) : addQ (a, b) = some (nat (val a + val b)) := by
  unfold addQ
  simp only
  rw [ok2 ha hb, cond_true]
theorem mulQ_eq (a b : List UInt8) (ha : a.length ≤ 1000000000) (hb : b.length ≤ 1000000000) : mulQ (a, b) = some (nat (val a * val b)) := by
  unfold mulQ
  simp only
  rw [ok2 ha hb, cond_true]
theorem divQ_eq (a b : List UInt8) (ha : a.length ≤ 1000000000) (hb : b.length ≤ 1000000000) : divQ (a, b) = some (divmod (val a) (val b)) := by
  unfold divQ
  simp only
  rw [ok2 ha hb, cond_true]
theorem xAdd (a b : List UInt8) (ha : a.length ≤ 1000000000) (hb : b.length ≤ 1000000000) : nat_Add a b = some (nat (val a + val b)) := (top_call ..).trans (addQ_eq a b ha hb)
theorem xMul (a b : List UInt8) (ha : a.length ≤ 1000000000) (hb : b.length ≤ 1000000000) : nat_Mul a b = some (nat (val a * val b)) := (top_call ..).trans (mulQ_eq a b ha hb)
theorem yMul (a b : List UInt8) (ha : a.length ≤ 1000000000) (hb : b.length ≤ 1000000000) : abacistref01_Mul a b = some (nat (val a * val b)) := (top_call ..).trans (mulQ_eq a b ha hb)
theorem xDiv (a b : List UInt8) (ha : a.length ≤ 1000000000) (hb : b.length ≤ 1000000000) : divide_DivMod a b = some (divmod (val a) (val b)) := (top_call ..).trans (divQ_eq a b ha hb)
theorem yDiv (a b : List UInt8) (ha : a.length ≤ 1000000000) (hb : b.length ≤ 1000000000) : abacistref02_DivMod a b = some (divmod (val a) (val b)) := (top_call ..).trans (divQ_eq a b ha hb)
/-! ### the reference's text -/
theorem digit_at (r : Nat) (h : r < 10) : (([48, 49, 50, 51, 52, 53, 54, 55, 56, 57] : List UInt8).take (r + 1)).drop r = [UInt8.ofNat (48 + r)] := by
  have : r = 0 ∨ r = 1 ∨ r = 2 ∨ r = 3 ∨ r = 4 ∨ r = 5 ∨ r = 6 ∨ r = 7 ∨ r = 8 ∨ r = 9 := by omega
  rcases this with rfl | rfl | rfl | rfl | rfl | rfl | rfl | rfl | rfl | rfl <;> rfl
theorem val10 : val [10] = 10 := rfl
/-! ### how often a number divides one -/
def ordB (b m : Nat) : Nat := if h : m = 0 ∨ b < 2 then 0 else if m % b = 0 then ordB b (m / b) + 1 else 0
termination_by m
decreasing_by exact Nat.div_lt_self (by omega) (by omega)
theorem ord_stop (b m : Nat) (h : m = 0 ∨ m % b ≠ 0) : ordB b m = 0 := by
  rw [ordB]
  rcases h with h | h
  · simp [h]
  · split
    · rfl
    · first | rfl | rw [if_neg h]
theorem ord_go (b m : Nat) (hm : m ≠ 0) (hb : 2 ≤ b) (h : m % b = 0) : ordB b m = ordB b (m / b) + 1 := by
  conv => lhs; rw [ordB]
  rw [dif_neg (by omega), if_pos h]
theorem div_two {b m e : Nat} (hb : 2 ≤ b) (h : m < 2 ^ (e + 1)) : m / b < 2 ^ e := by
  have h1 : m / b ≤ m / 2 := Nat.div_le_div_left hb (by decide)
  rw [Nat.pow_succ] at h
  omega
theorem pow8 (k : Nat) : 256 ^ k = 2 ^ (8 * k) := by rw [show (256 : Nat) = 2 ^ 8 by decide, ← Nat.pow_mul]
/-! ### texts as numbers -/
def parseV (s : List UInt8) : List UInt8 × Int := if s = [] ∨ good s = false then ([], 3) else if s.length > 400 then ([], 9) else (nat (dv s), 0)
theorem good_get {s : List UInt8} {i : Nat} (h : i < s.length) : s[i] = s.getD i 0 := by
  rw [List.getD_eq_getElem?_getD, List.getElem?_eq_getElem h]; rfl
theorem good_drop {s : List UInt8} {i : Nat} (h : i < s.length) : good (s.drop i) = (dig (s.getD i 0) && good (s.drop (i + 1))) := by
  rw [List.drop_eq_getElem_cons h, good_get h]; rfl
theorem xOdd1 (s : List UInt8) (hs : s.length ≤ 9223372036854775807) : ∀ (m i : Nat), i + m = s.length → dec_odd_1 (s.map fun b => (b.toNat : Int)) ((s.map fun b => (b.toNat : Int)).length : Int) (i : Int) = some (!good (s.drop i))
  | 0, i, h => by
    rw [dec_odd_1_eq, cF (decide_eq_false (by rw [List.length_map]; omega)), List.drop_of_length_le (by omega)]; rfl
  | m + 1, i, h => by
    have hi : i < s.length := by omega
    have hg : (s.map fun b => (b.toNat : Int)).getD (i : Int).toNat 0 = ((s.getD i 0).toNat : Int) := by simp [List.getD, hi]
    have next : dec_odd_2 (s.map fun b => (b.toNat : Int)) ((s.map fun b => (b.toNat : Int)).length : Int) (i : Int) false = some (!good (s.drop (i + 1))) := by
      rw [dec_odd_2_eq, cond_false, wS (by omega)]; exact xOdd1 s hs m (i + 1) (by omega)
    have stop : dec_odd_2 (s.map fun b => (b.toNat : Int)) ((s.map fun b => (b.toNat : Int)).length : Int) (i : Int) true = some true := by rw [dec_odd_2_eq, cond_true]
    rw [dec_odd_1_eq, cT (decide_eq_true (by rw [List.length_map]; omega)), cT (by rw [List.length_map]; exact ix hi), hg, good_drop hi]
    generalize s.getD i 0 = c
    by_cases h1 : c.toNat < 48
    · rw [cT (decide_eq_true (by omega)), stop, show dig c = false by unfold dig; simp; omega]; rfl
    · rw [cF (decide_eq_false (by omega))]
      by_cases h2 : c.toNat > 57
      · rw [decide_eq_true (show (c.toNat : Int) > 57 by omega), stop, show dig c = false by unfold dig; simp; omega]; rfl
      · rw [decide_eq_false (show ¬ (c.toNat : Int) > 57 by omega), next, show dig c = true by unfold dig; simp; omega]; rfl
theorem xOdd (s : List UInt8) (hs : s.length ≤ 9223372036854775807) : dec_odd s = some (!good s) := (dec_odd_eq s).trans (xOdd1 s hs s.length 0 (Nat.zero_add _))
theorem dig_get {s : List UInt8} (h : good s = true) {i : Nat} (hi : i < s.length) : dig (s.getD i 0) = true := by
  rw [← good_get hi]
  exact List.all_eq_true.1 h _ (List.getElem_mem hi)
theorem dv_take {s : List UInt8} {i : Nat} (h : i < s.length) : dv (s.take (i + 1)) = dv (s.take i) * 10 + ((s.getD i 0).toNat - 48) := by
  rw [List.take_add_one, List.getElem?_eq_getElem h, good_get h]
  simp only [Option.toList_some, dv_snoc]
theorem good_take {s : List UInt8} (h : good s = true) (i : Nat) : good (s.take i) = true := List.all_eq_true.2 fun x hx => List.all_eq_true.1 h x (List.mem_of_mem_take hx)
theorem good_dropT {s : List UInt8} (h : good s = true) (i : Nat) : good (s.drop i) = true := List.all_eq_true.2 fun x hx => List.all_eq_true.1 h x (List.mem_of_mem_drop hx)
/-- The digits of a piece. -/
theorem xParse3 (s : List UInt8) (A : Nat) (c : List UInt8) (hc : good c = true) (hcl : c.length ≤ 9) (hA : (nat A).length ≤ 100000) (k : Nat) (hk : k ≤ s.length) : ∀ (m i : Nat), i + m = c.length →
    dec_Parse_3 s (nat A) (k : Int) ((dv (c.take i) : Nat) : Int) ((10 ^ i : Nat) : Int) (c.map fun b => (b.toNat : Int)) (c.length : Int) (i : Int) = dec_Parse_2 (s.drop k) (nat (A * 10 ^ c.length + dv c))
  | 0, i, h => by
    obtain rfl : i = c.length := by omega
    have hp : 10 ^ c.length ≤ 10 ^ 9 := Nat.pow_le_pow_right (by decide) hcl
    have hd := dv_lt c hc
    have lp : (nat (10 ^ c.length)).length ≤ 4 := nat_length_le (by omega)
    have ld : (nat (dv c)).length ≤ 4 := nat_length_le (by omega)
    have lm : (nat (A * 10 ^ c.length)).length ≤ 1000000 := by
      have h1 := val_lt (nat A)
      have h2 := val_lt (nat (10 ^ c.length))
      rw [val_nat] at h1 h2
      have : A * 10 ^ c.length < 256 ^ ((nat A).length + (nat (10 ^ c.length)).length) := by rw [Nat.pow_add]; exact Nat.mul_lt_mul'' h1 h2
      exact Nat.le_trans (nat_length_le this) (by omega)
    rw [dec_Parse_3_eq, cF (decide_eq_false (by omega)), xOf _ (by omega), Option.bind_some, xMul _ _ (by omega) (by omega), Option.bind_some, List.take_length, xOf _ (by omega), Option.bind_some, val_nat, val_nat, xAdd _ _ (by omega) (by omega), Option.bind_some, val_nat, val_nat,
      cT (P.inC hk), Int.toNat_natCast]
  | m + 1, i, h => by
    have hi : i < c.length := by omega
    have hg : (c.map fun b => (b.toNat : Int)).getD (i : Int).toNat 0 = ((c.getD i 0).toNat : Int) := by simp [List.getD, hi]
    have hd := dig_le (dig_get hc hi)
    have hv := dv_lt (c.take i) (good_take hc i)
    have hp : 10 ^ (c.take i).length ≤ 10 ^ 8 := Nat.pow_le_pow_right (by decide) (by simp; omega)
    have hp2 : 10 ^ i ≤ 10 ^ 8 := Nat.pow_le_pow_right (by decide) (by omega)
    have e := dv_take hi
    have := xParse3 s A c hc hcl hA k hk m (i + 1) (by omega)
    rw [dec_Parse_3_eq, cT (decide_eq_true (by omega)), cT (by rw [List.length_map]; exact ix hi), hg]
    generalize c.getD i 0 = ch at hd e
    have e1 : IntKind.u64.wrap (IntKind.u64.wrap (((dv (c.take i) : Nat) : Int) * 10) + IntKind.u64.wrap (IntKind.u8.wrap ((ch.toNat : Int) - 48))) = ((dv (c.take (i + 1)) : Nat) : Int) := by
      rw [e]
      generalize dv (c.take i) = V at hv
      rw [wrapU8 (by omega) (by omega), wrapU64 (n := (V : Int) * 10) (by omega) (by omega), wrapU64 (n := (ch.toNat : Int) - 48) (by omega) (by omega), wrapU64 (by omega) (by omega)]
      omega
    have e2 : IntKind.u64.wrap (((10 ^ i : Nat) : Int) * 10) = ((10 ^ (i + 1) : Nat) : Int) := by
      rw [Nat.pow_succ]
      generalize 10 ^ i = X at hp2
      rw [wrapU64 (by omega) (by omega)]; omega
    rw [e1, e2, wS (by omega)]
    exact this
theorem xParse2 : ∀ (f : Nat) (s : List UInt8) (A j : Nat), s.length ≤ f → good s = true → A < 10 ^ j → j + s.length ≤ 400 → dec_Parse_2 s (nat A) = some (nat (A * 10 ^ s.length + dv s), 0)
  | f, s, A, j, hf, hg, hA, hj => by
    by_cases h0 : s.length = 0
    · obtain rfl : s = [] := List.eq_nil_of_length_eq_zero h0
      rw [dec_Parse_2_eq, cF (decide_eq_false (by simp)), dv_nil]; simp
    · match f with
      | 0 => omega
      | f + 1 =>
        have lA := nat_ten_len hA
        have hk : min (9 : Int) (s.length : Int) = ((min 9 s.length : Nat) : Int) := by omega
        have hkl : min 9 s.length ≤ s.length := by omega
        have hcl : (s.take (min 9 s.length)).length = min 9 s.length := by simp
        have h3 := xParse3 s A (s.take (min 9 s.length)) (good_take hg _) (by omega) (by omega) (min 9 s.length) hkl _ 0 (Nat.zero_add _)
        have h3' : dec_Parse_3 s (nat A) ((min 9 s.length : Nat) : Int) 0 1 ((s.take (min 9 s.length)).map fun b => (b.toNat : Int)) ((s.take (min 9 s.length)).length : Int) 0 = _ := h3
        have hsplit : dv s = dv (s.take (min 9 s.length)) * 10 ^ (s.drop (min 9 s.length)).length + dv (s.drop (min 9 s.length)) := by rw [← dv_append, List.take_append_drop]
        have hdl := dv_lt (s.take (min 9 s.length)) (good_take hg _)
        rw [hcl] at hdl
        have hA2 : A * 10 ^ (min 9 s.length) + dv (s.take (min 9 s.length)) < 10 ^ (j + min 9 s.length) := by
          rw [Nat.pow_add]
          have : (A + 1) * 10 ^ (min 9 s.length) ≤ 10 ^ j * 10 ^ (min 9 s.length) := Nat.mul_le_mul_right _ hA
          rw [Nat.succ_mul] at this
          omega
        have hlen : s.length = min 9 s.length + (s.drop (min 9 s.length)).length := by simp; omega
        have hpow : 10 ^ s.length = 10 ^ (min 9 s.length) * 10 ^ (s.drop (min 9 s.length)).length := by rw [← Nat.pow_add, ← hlen]
        rw [dec_Parse_2_eq, cT (decide_eq_true (by omega)), hk, cT (P.inC hkl), Int.toNat_natCast, List.length_map, h3', hcl,
          xParse2 f (s.drop (min 9 s.length)) _ (j + min 9 s.length) (by simp; omega) (good_dropT hg _) hA2 (by omega), hsplit, hpow]
        generalize 10 ^ (min 9 s.length) = X
        generalize 10 ^ (s.drop (min 9 s.length)).length = Y
        rw [Nat.add_mul, Nat.mul_assoc, Nat.add_assoc]
theorem xParse (s : List UInt8) (hs : s.length ≤ 9223372036854775807) : dec_Parse s = some (parseV s) := by
  rw [dec_Parse_eq, parseV]
  by_cases h0 : s = []
  · subst h0; rw [cT (by rfl), dec_Parse_1_eq, cond_true, if_pos (.inl rfl)]
  · rw [cF (decide_eq_false h0), xOdd s hs, Option.bind_some, dec_Parse_1_eq]
    by_cases hg : good s = true
    · rw [hg, show (!true) = false from rfl, cond_false, if_neg (by simp [h0])]
      by_cases hl : s.length > 400
      · rw [cT (decide_eq_true (by omega)), if_pos hl]
      · have := xParse2 s.length s 0 0 (Nat.le_refl _) hg (by simp) (by omega)
        rw [nat_zero, Nat.zero_mul, Nat.zero_add] at this
        rw [cF (decide_eq_false (by omega)), if_neg hl, this]
    · have hg : good s = false := by simpa using hg
      rw [hg, show (!false) = true from rfl, cond_true, if_pos (.inr rfl)]
end Go.Proofs.YtodfaihlddiokaaGreatDoor.D

/- Whole numbers and fractions: plain Lean; the program's and the reference's. -/
set_option linter.unusedVariables false
set_option linter.unusedSimpArgs false
namespace Go.Proofs.YtodfaihlddiokaaGreatDoor.D
open Go Go.Proofs.YtodfaihlddiokaaGreatDoor.K
open Go.Proofs.YtodfaihlddiokaaGreatDoor.P (nat val divmod small val_nat nat_zero nat_eq_nil nat_val_length nat_length_le len_mono val_lt nat_inj sgnv powR powV blen blen_bounds blen_zero nat_one)
open Go.Proofs.YtodfaihlddiokaaGreatDoor.Q (ok1 ok3 cmpQ gcdQ powQ bitsQ)
abbrev Wh := Bool × List UInt8
abbrev Rt := Bool × List UInt8 × List UInt8
theorem ok3_of {s : List UInt8} (h : s.length ≤ 1000) : ok3 s = true := Nat.ble_eq_true_of_le h
theorem cmpQ_eq (a b : List UInt8) (ha : a.length ≤ 1000000000) (hb : b.length ≤ 1000000000) : cmpQ (a, b) = some (sgnv (val a) (val b)) := by
  unfold cmpQ
  simp only
  rw [ok2 ha hb, cond_true]
theorem xCmp (a b : List UInt8) (ha : a.length ≤ 1000000000) (hb : b.length ≤ 1000000000) : nat_Cmp a b = some (sgnv (val a) (val b)) := (top_call ..).trans (cmpQ_eq a b ha hb)
theorem yCmp (a b : List UInt8) (ha : a.length ≤ 1000000000) (hb : b.length ≤ 1000000000) : abacistref01_Cmp a b = some (sgnv (val a) (val b)) := (top_call ..).trans (cmpQ_eq a b ha hb)
theorem gcdQ_eq (a b : List UInt8) (ha : a.length ≤ 1000) (hb : b.length ≤ 1000) : gcdQ (a, b) = some (nat (Nat.gcd (val a) (val b))) := by
  unfold gcdQ
  simp only
  rw [ok3_of ha, ok3_of hb]; rfl
theorem xGcd (a b : List UInt8) (ha : a.length ≤ 1000) (hb : b.length ≤ 1000) : divide_Gcd a b = some (nat (Nat.gcd (val a) (val b))) := (top_call ..).trans (gcdQ_eq a b ha hb)
theorem yGcd (a b : List UInt8) (ha : a.length ≤ 1000) (hb : b.length ≤ 1000) : abacistref02_Gcd a b = some (nat (Nat.gcd (val a) (val b))) := (top_call ..).trans (gcdQ_eq a b ha hb)
theorem powQ_eq (a : List UInt8) (n : Int) (ha : a.length ≤ 1000) (hn : n ≤ 9000) : powQ (a, n) = some (powR (val a) n) := by
  unfold powQ
  simp only
  rw [ok3_of ha, decide_eq_true hn]; rfl
theorem xPow (a : List UInt8) (n : Int) (ha : a.length ≤ 1000) (hn : n ≤ 9000) : divide_Pow a n = some (powR (val a) n) := (top_call ..).trans (powQ_eq a n ha hn)
theorem yBits (a : List UInt8) (ha : a.length ≤ 1000000000) : abacistref01_Bits a = some ((blen (val a) : Nat) : Int) := by
  refine (top_call ..).trans ?_
  show bitsQ a = _
  unfold bitsQ
  rw [ok_le ha, cond_true]
theorem nilD (n : Nat) : decide (nat n = []) = decide (n = 0) := decide_eq_decide.2 nat_eq_nil
/-! ### whole numbers -/
def mkW (s : Bool) (n : Nat) : Wh := (s && !decide (n = 0), nat n)
def wv (x : Wh) : Int := if x.1 then -(val x.2 : Int) else (val x.2 : Int)
def icmp (x y : Int) : Int := if x < y then -1 else if x = y then 0 else 1
theorem xWMake (s : Bool) (m : List UInt8) (h : m.length ≤ 1000000000) : whole_Make s m = some (mkW s (val m)) := by
  rw [whole_Make_eq, xTrim m h, Option.bind_some, mkW, nilD]
  cases s <;> rfl
theorem yWMake (s : Bool) (m : List UInt8) (h : m.length ≤ 1000000000) : abacistref04_Make s m = some (mkW s (val m)) := by
  rw [abacistref04_Make_eq, yTrim m h, Option.bind_some, mkW, nilD]
  cases s <;> rfl
theorem xWWell (x : Wh) (h : x.2.length ≤ 1000000000) : whole_well x = some (mkW x.1 (val x.2)) := by rw [whole_well_eq, xWMake _ _ h]; rfl
theorem yWWell (x : Wh) (h : x.2.length ≤ 1000000000) : abacistref04_well x = some (mkW x.1 (val x.2)) := by rw [abacistref04_well_eq, yWMake _ _ h]; rfl
theorem mul_len (a b : List UInt8) : (nat (val a * val b)).length ≤ a.length + b.length := by
  have h1 := val_lt a
  have h2 := val_lt b
  exact nat_length_le (by rw [Nat.pow_add]; exact Nat.mul_lt_mul'' h1 h2)
theorem xWMul (x y : Wh) (hx : x.2.length ≤ 100000) (hy : y.2.length ≤ 100000) : whole_Mul x y = some (mkW (!(x.1 == y.1)) (val x.2 * val y.2)) := by
  have := mul_len x.2 y.2
  rw [whole_Mul_eq, xMul _ _ (by omega) (by omega), Option.bind_some, xWMake _ _ (by omega), val_nat]; rfl
theorem yWMul (x y : Wh) (hx : x.2.length ≤ 100000) (hy : y.2.length ≤ 100000) : abacistref04_Mul x y = some (mkW (!(mkW x.1 (val x.2)).1 == (mkW y.1 (val y.2)).1) (val x.2 * val y.2)) := by
  have h1 := nat_val_length x.2
  have h2 := nat_val_length y.2
  have h3 := mul_len x.2 y.2
  rw [abacistref04_Mul_eq, yWWell _ (by omega), Option.bind_some, yWWell _ (by omega), Option.bind_some]
  show (abacistref01_Mul (nat (val x.2)) (nat (val y.2))).bind _ = _
  rw [yMul _ _ (by omega) (by omega), Option.bind_some, val_nat, val_nat, yWMake _ _ (by omega), val_nat]; rfl
theorem wv_mkW (s : Bool) (n : Nat) : wv (mkW s n) = if s then -(n : Int) else (n : Int) := by
  unfold wv mkW
  simp only [val_nat]
  cases s with
  | false => rfl
  | true => by_cases h : n = 0 <;> simp [h]
theorem xWCmp (x y : Wh) (hx : x.2.length ≤ 1000000000) (hy : y.2.length ≤ 1000000000) : whole_Cmp x y = some (icmp (wv x) (wv y)) := by
  have h1 := nat_val_length x.2
  have h2 := nat_val_length y.2
  obtain ⟨s, m⟩ := x
  obtain ⟨t, n⟩ := y
  simp only at h1 h2 hx hy
  rw [whole_Cmp_eq, xWWell _ hx, Option.bind_some, xWWell _ hy, Option.bind_some]
  show (nat_Cmp (nat (val m)) (nat (val n))).bind _ = _
  rw [xCmp _ _ (by omega) (by omega), Option.bind_some, val_nat, val_nat]
  simp only [whole_Cmp_1_eq, mkW, wv, icmp, sgnv]
  generalize val m = a
  generalize val n = b
  cases s <;> cases t <;> by_cases ha : a = 0 <;> by_cases hb : b = 0 <;> simp [ha, hb] <;> (repeat' split) <;> first | rfl | omega | (exfalso; omega)
theorem yWCmp (x y : Wh) (hx : x.2.length ≤ 1000000000) (hy : y.2.length ≤ 1000000000) : abacistref04_Cmp x y = some (icmp (wv x) (wv y)) := by
  have h1 := nat_val_length x.2
  have h2 := nat_val_length y.2
  obtain ⟨s, m⟩ := x
  obtain ⟨t, n⟩ := y
  simp only at h1 h2 hx hy
  rw [abacistref04_Cmp_eq, yWWell _ hx, Option.bind_some, yWWell _ hy, Option.bind_some]
  have e1 : abacistref01_Cmp (nat (val m)) (nat (val n)) = some (sgnv (val m) (val n)) := by rw [yCmp _ _ (by omega) (by omega), val_nat, val_nat]
  have e2 : abacistref01_Cmp (nat (val n)) (nat (val m)) = some (sgnv (val n) (val m)) := by rw [yCmp _ _ (by omega) (by omega), val_nat, val_nat]
  simp only [mkW, wv, icmp, e1, e2, sgnv, Option.bind_some]
  generalize val m = a
  generalize val n = b
  cases s <;> cases t <;> by_cases ha : a = 0 <;> by_cases hb : b = 0 <;> simp [ha, hb] <;> (repeat' split) <;> first | rfl | omega | (exfalso; omega)
end Go.Proofs.YtodfaihlddiokaaGreatDoor.D

/- Fractions: plain Lean; the program's and the reference's. -/
set_option linter.unusedVariables false
set_option linter.unusedSimpArgs false
namespace Go.Proofs.YtodfaihlddiokaaGreatDoor.D
open Go Go.Proofs.YtodfaihlddiokaaGreatDoor.K
open Go.Proofs.YtodfaihlddiokaaGreatDoor.P (nat val divmod small val_nat nat_zero nat_eq_nil nat_val_length nat_length_le len_mono val_lt nat_inj sgnv powR powV blen blen_bounds blen_zero nat_one mod_u64)
def tidy (s : List UInt8) : Bool := decide (s.length ≤ 32) && decide (nat (val s) = s)
def right (r : Rt) : Bool := tidy r.2.1 && (tidy r.2.2 && (!decide (r.2.2 = []) && cond (decide (r.2.1 = [])) (!r.1 && decide (r.2.2 = [1])) (decide (Nat.gcd (val r.2.1) (val r.2.2) = 1))))
theorem val1 : val [1] = 1 := rfl
theorem natOne (n : Nat) : decide (nat n = [1]) = decide (n = 1) := decide_eq_decide.2 (by rw [← nat_one, nat_inj])
theorem tidy_len {s : List UInt8} (h : tidy s = true) : s.length ≤ 32 := by
  unfold tidy at h
  simp at h
  exact h.1
theorem tidy_nat {s : List UInt8} (h : tidy s = true) : nat (val s) = s := by
  unfold tidy at h
  simp at h
  exact h.2
theorem xTidy (s : List UInt8) : rat_tidy s = some (tidy s) := by
  rw [rat_tidy_eq]
  by_cases h : s.length ≤ 32
  · rw [cT (decide_eq_true (by omega)), xTrim s (by omega)]; simp [tidy, h]
  · rw [cF (decide_eq_false (by omega))]; simp [tidy, h]
theorem xRight (r : Rt) : rat_Right r = some (right r) := by
  rw [rat_Right_eq, xTidy, Option.bind_some, xTidy, Option.bind_some]
  simp only [rat_Right_1_eq, right]
  cases h1 : tidy r.2.1 with
  | false => rfl
  | true =>
    cases h2 : tidy r.2.2 with
    | false => rfl
    | true =>
      have l1 := tidy_len h1
      have l2 := tidy_len h2
      rw [xGcd _ _ (by omega) (by omega), Option.bind_some, natOne]
      by_cases h3 : r.2.2 = []
      · simp [h3]
      · by_cases h4 : r.2.1 = []
        · cases h6 : r.1 <;> simp [h3, h4]
        · by_cases h5 : r.2.2 = [1]
          · simp [h5, h4, val1]
          · simp [h3, h4, h5]
theorem yRight (r : Rt) : abacistref05_Right r = some (right r) := by
  rw [abacistref05_Right_eq]
  simp only [abacistref05_Right_1_eq, right]
  by_cases a1 : r.2.1.length ≤ 32
  · by_cases a2 : r.2.2.length ≤ 32
    · rw [cF (decide_eq_false (by omega)), cF (decide_eq_false (by omega)), yTrim _ (by omega), Option.bind_some, yTrim _ (by omega), Option.bind_some, yGcd _ _ (by omega) (by omega), Option.bind_some, natOne]
      by_cases a3 : r.2.2 = []
      · simp [a3]
      · by_cases a4 : nat (val r.2.1) = r.2.1
        · by_cases a5 : nat (val r.2.2) = r.2.2
          · by_cases a6 : r.2.1 = []
            · have hv : val ([] : List UInt8) = 0 := rfl
              cases h6 : r.1 <;> simp [tidy, a2, a3, a5, a6, hv, nat_zero]
            · simp [tidy, a1, a2, a3, a4, a5, a6]
          · simp [tidy, a1, a2, a3, a4, a5]
        · simp [tidy, a1, a2, a3, a4]
    · rw [cF (decide_eq_false (by omega)), cT (decide_eq_true (by omega))]; simp [tidy, a2]
  · rw [cT (decide_eq_true (by omega))]; simp [tidy, a1]
def well (r : Rt) : Rt := cond (right r) r (false, [], [1])
/-- A fraction's form. -/
structure Fm (s : Bool) (n d : Nat) : Prop where
  nl : (nat n).length ≤ 32
  dl : (nat d).length ≤ 32
  pos : 0 < d
  co : Nat.gcd n d = 1
  z : n = 0 → s = false
theorem right_form {r : Rt} (h : right r = true) : ∃ s n d, r = (s, nat n, nat d) ∧ Fm s n d := by
  obtain ⟨s, a, b⟩ := r
  unfold right at h
  simp only [Bool.and_eq_true] at h
  obtain ⟨h1, h2, h3, h4⟩ := h
  have e1 := tidy_nat h1
  have e2 := tidy_nat h2
  have hb : b ≠ [] := by simpa using h3
  have hd : val b ≠ 0 := fun e => hb (by rw [← e2, e, nat_zero])
  refine ⟨s, val a, val b, by rw [e1, e2], ⟨by rw [e1]; exact tidy_len h1, by rw [e2]; exact tidy_len h2, by omega, ?_, ?_⟩⟩
  · by_cases h0 : a = []
    · rw [decide_eq_true h0, cond_true] at h4
      simp only [Bool.and_eq_true, decide_eq_true_eq] at h4
      rw [h0, h4.2]; rfl
    · rw [decide_eq_false h0, cond_false] at h4
      exact of_decide_eq_true h4
  · intro hz
    have h0 : a = [] := by rw [← e1, hz, nat_zero]
    rw [decide_eq_true h0, cond_true] at h4
    simp only [Bool.and_eq_true, Bool.not_eq_true'] at h4
    exact h4.1
theorem tidy_of {n : Nat} (h : (nat n).length ≤ 32) : tidy (nat n) = true := by
  unfold tidy
  rw [val_nat, decide_eq_true h, decide_eq_true rfl]; rfl
theorem Fm.right {s : Bool} {n d : Nat} (h : Fm s n d) : right (s, nat n, nat d) = true := by
  unfold D.right
  have hd : decide (nat d = []) = false := decide_eq_false fun e => by have := nat_eq_nil.1 e; have := h.pos; omega
  simp only [tidy_of h.nl, tidy_of h.dl, hd, nilD, natOne, val_nat]
  by_cases h0 : n = 0
  · have hs := h.z h0
    have hc := h.co
    rw [h0, Nat.gcd_zero_left] at hc
    rw [decide_eq_true h0, hs, decide_eq_true hc]; rfl
  · rw [decide_eq_false h0, decide_eq_true h.co]; rfl
theorem nat_of_one : nat 1 = [1] := nat_one
theorem Fm.zero : Fm false 0 1 := ⟨by rw [nat_zero]; simp, by rw [nat_one]; simp, by omega, rfl, fun _ => rfl⟩
theorem well_form (r : Rt) : ∃ s n d, well r = (s, nat n, nat d) ∧ Fm s n d := by
  unfold well
  cases h : right r with
  | true => exact right_form h
  | false => exact ⟨false, 0, 1, by rw [nat_zero, nat_one]; rfl, .zero⟩
theorem Fm.well {s : Bool} {n d : Nat} (h : Fm s n d) : well (s, nat n, nat d) = (s, nat n, nat d) := by unfold D.well; rw [h.right]; rfl
theorem well_well (r : Rt) : well (well r) = well r := by
  obtain ⟨s, n, d, e, f⟩ := well_form r
  rw [e, f.well]
theorem right_well (r : Rt) : right (well r) = true := by
  obtain ⟨s, n, d, e, f⟩ := well_form r
  rw [e, f.right]
theorem well_of_right {r : Rt} (h : right r = true) : well r = r := by unfold well; rw [h]; rfl
theorem xWell (r : Rt) : rat_well r = some (well r) := by
  rw [rat_well_eq, xRight, Option.bind_some, well]
  cases right r <;> rfl
theorem yWell (r : Rt) : abacistref05_Well r = some (well r) := by
  rw [abacistref05_Well_eq, yRight, Option.bind_some, well, abacistref05_Zero_eq]
  cases right r <;> rfl
theorem mkW_form {s : Bool} {n d : Nat} (h : Fm s n d) : mkW s n = (s, nat n) := by
  unfold mkW
  by_cases h0 : n = 0
  · rw [h.z h0]; rfl
  · rw [decide_eq_false h0]; cases s <;> rfl
theorem xTop (r : Rt) : rat_top r = some (r.1, r.2.1) := rat_top_eq r
theorem xLow (r : Rt) : rat_low r = some (false, r.2.2) := rat_low_eq r
theorem yTop {r : Rt} {s : Bool} {n d : Nat} (e : well r = (s, nat n, nat d)) (h : Fm s n d) : abacistref05_Top r = some (s, nat n) := by
  have := h.nl
  rw [abacistref05_Top_eq, yWell, Option.bind_some, Option.bind_some, e]
  show (abacistref04_Make s (nat n)).bind _ = _
  rw [yWMake _ _ (by omega), val_nat, mkW_form h]; rfl
theorem yLow {r : Rt} {s : Bool} {n d : Nat} (e : well r = (s, nat n, nat d)) (h : Fm s n d) : abacistref05_Low r = some (false, nat d) := by
  have := h.dl
  rw [abacistref05_Low_eq, yWell, Option.bind_some, e]
  show (abacistref04_Make false (nat d)).bind _ = _
  rw [yWMake _ _ (by omega), val_nat]; rfl
/-! ### making -/
def make (x y : Wh) : Rt × Int :=
  if val y.2 = 0 then ((false, [], []), 5)
  else if 32 < (nat (val x.2 / Nat.gcd (val x.2) (val y.2))).length ∨ 32 < (nat (val y.2 / Nat.gcd (val x.2) (val y.2))).length then ((false, [], []), 4)
  else ((!(x.1 == y.1) && !decide (val x.2 / Nat.gcd (val x.2) (val y.2) = 0), nat (val x.2 / Nat.gcd (val x.2) (val y.2)), nat (val y.2 / Nat.gcd (val x.2) (val y.2))), 0)
theorem xMake (x y : Wh) (hx : x.2.length ≤ 1000) (hy : y.2.length ≤ 1000) : rat_Make x y = some (make x y) := by
  have l1 := nat_val_length x.2
  have l2 := nat_val_length y.2
  rw [rat_Make_eq, xTrim _ (by omega), Option.bind_some, xTrim _ (by omega), Option.bind_some, nilD, make]
  by_cases h0 : val y.2 = 0
  · rw [cT (decide_eq_true h0), if_pos h0]
  · rw [cF (decide_eq_false h0), if_neg h0, xGcd _ _ (by omega) (by omega), Option.bind_some, val_nat, val_nat, natOne]
    have hg : 0 < Nat.gcd (val x.2) (val y.2) := Nat.gcd_pos_of_pos_right _ (by omega)
    generalize hG : Nat.gcd (val x.2) (val y.2) = g at hg
    have hgl : (nat g).length ≤ 1000 := by
      have : g ≤ val y.2 := by rw [← hG]; exact Nat.gcd_le_right _ (by omega)
      exact Nat.le_trans (len_mono this) (by omega)
    have step : ∀ a b : Nat, rat_Make_1 (nat a) (nat b) x y (false, [], []) = some (if 32 < (nat a).length ∨ 32 < (nat b).length then ((false, [], []), 4) else ((!(x.1 == y.1) && !decide (a = 0), nat a, nat b), 0)) := by
      intro a b
      rw [rat_Make_1_eq]
      simp only [rat_Make_2_eq, nilD]
      by_cases h1 : 32 < (nat a).length
      · rw [cT (decide_eq_true (by omega)), if_pos (.inl h1)]; rfl
      · rw [cF (decide_eq_false (by omega))]
        by_cases h2 : 32 < (nat b).length
        · rw [cT (decide_eq_true (by omega)), if_pos (.inr h2)]
        · rw [cF (decide_eq_false (by omega)), if_neg (by omega)]
          by_cases h3 : a = 0
          · simp [h3]
          · simp [h3]
    by_cases h1 : g = 1
    · rw [cF (by rw [decide_eq_true h1]; rfl), step, h1, Nat.div_one, Nat.div_one]
    · have e1 : divide_DivMod (nat (val x.2)) (nat g) = some (nat (val x.2 / g), nat (val x.2 % g), 0) := by rw [xDiv _ _ (by omega) (by omega), val_nat, val_nat, divmod, if_neg (by omega)]
      have e2 : divide_DivMod (nat (val y.2)) (nat g) = some (nat (val y.2 / g), nat (val y.2 % g), 0) := by rw [xDiv _ _ (by omega) (by omega), val_nat, val_nat, divmod, if_neg (by omega)]
      rw [cT (by rw [decide_eq_false h1]; rfl), e1, Option.bind_some, e2, Option.bind_some, step]
theorem pow_half {k b n : Nat} (h : k < b) (h2 : 2 ^ b ≤ 2 * n) : 2 ^ k ≤ n := by
  have h3 : 2 ^ (k + 1) ≤ 2 ^ b := Nat.pow_le_pow_right (by decide) h
  rw [Nat.pow_succ] at h3
  generalize 2 ^ k = X at h3 ⊢
  omega
theorem blen_big (n : Nat) : blen n > 256 ↔ 32 < (nat n).length := by
  obtain ⟨h1, h2⟩ := blen_bounds n
  have h3 := val_lt (nat n)
  rw [val_nat, P.pow_256] at h3
  constructor
  · intro h
    rcases Nat.lt_or_ge 32 (nat n).length with h4 | h4
    · exact h4
    · exfalso
      have h5 : 2 ^ (8 * (nat n).length) ≤ 2 ^ 256 := Nat.pow_le_pow_right (by decide) (by omega)
      by_cases h0 : n = 0
      · rw [h0, blen_zero] at h; omega
      · have h6 := pow_half h (h2 h0)
        generalize (2 : Nat) ^ 256 = X at h5 h6
        omega
  · intro h
    rcases Nat.lt_or_ge 256 (blen n) with h4 | h4
    · exact h4
    · exfalso
      have h5 : 2 ^ blen n ≤ 2 ^ (8 * 32) := Nat.pow_le_pow_right (by decide) h4
      have : (nat n).length ≤ 32 := nat_length_le (by rw [P.pow_256]; exact Nat.lt_of_lt_of_le h1 h5)
      omega
theorem yDivs (a b : List UInt8) (ha : a.length ≤ 1000000000) (hb : b.length ≤ 1000000000) : abacistref02_Div a b = some (divmod (val a) (val b)).1 := by rw [abacistref02_Div_eq, yDiv _ _ ha hb]; rfl
theorem yMake (x y : Wh) (hx : x.2.length ≤ 1000) (hy : y.2.length ≤ 1000) : abacistref05_Make x y = some (make x y) := by
  have l1 := nat_val_length x.2
  have l2 := nat_val_length y.2
  rw [abacistref05_Make_eq, yWMake _ _ (by omega), Option.bind_some, yWMake _ _ (by omega), Option.bind_some, make]
  show cond (decide (nat (val y.2) = [])) _ _ = _
  rw [nilD]
  by_cases h0 : val y.2 = 0
  · rw [cT (decide_eq_true h0), if_pos h0]
  · rw [cF (decide_eq_false h0), if_neg h0]
    show (abacistref02_Gcd (nat (val x.2)) (nat (val y.2))).bind _ = _
    rw [yGcd _ _ (by omega) (by omega), Option.bind_some, val_nat, val_nat]
    have hg : 0 < Nat.gcd (val x.2) (val y.2) := Nat.gcd_pos_of_pos_right _ (by omega)
    have hgx : val x.2 = 0 ∨ Nat.gcd (val x.2) (val y.2) ≤ val x.2 := by
      rcases Nat.eq_zero_or_pos (val x.2) with h | h
      · exact .inl h
      · exact .inr (Nat.gcd_le_left _ h)
    generalize hG : Nat.gcd (val x.2) (val y.2) = g at hg hgx
    have hgl : (nat g).length ≤ 1000 := by
      have : g ≤ val y.2 := by rw [← hG]; exact Nat.gcd_le_right _ (by omega)
      exact Nat.le_trans (len_mono this) (by omega)
    have e1 : abacistref02_Div (mkW x.1 (val x.2)).2 (nat g) = some (nat (val x.2 / g)) := by
      show abacistref02_Div (nat (val x.2)) (nat g) = _
      rw [yDivs _ _ (by omega) (by omega), val_nat, val_nat, divmod, if_neg (by omega)]
    have e2 : abacistref02_Div (mkW y.1 (val y.2)).2 (nat g) = some (nat (val y.2 / g)) := by
      show abacistref02_Div (nat (val y.2)) (nat g) = _
      rw [yDivs _ _ (by omega) (by omega), val_nat, val_nat, divmod, if_neg (by omega)]
    have m1 : (nat (val x.2 / g)).length ≤ 1000 := Nat.le_trans (len_mono (Nat.div_le_self _ _)) (by omega)
    have m2 : (nat (val y.2 / g)).length ≤ 1000 := Nat.le_trans (len_mono (Nat.div_le_self _ _)) (by omega)
    rw [e1, Option.bind_some, e2, Option.bind_some, yBits _ (by omega), Option.bind_some, yBits _ (by omega), Option.bind_some, val_nat, val_nat]
    simp only [abacistref05_Make_1_eq, nilD]
    by_cases h1 : 32 < (nat (val x.2 / g)).length
    · rw [cT (decide_eq_true (by have := (blen_big _).2 h1; omega)), if_pos (.inl h1)]; rfl
    · rw [cF (decide_eq_false (by have := mt (blen_big (val x.2 / g)).1 h1; omega))]
      by_cases h2 : 32 < (nat (val y.2 / g)).length
      · rw [cT (decide_eq_true (by have := (blen_big _).2 h2; omega)), if_pos (.inr h2)]
      · rw [cF (decide_eq_false (by have := mt (blen_big (val y.2 / g)).1 h2; omega)), if_neg (by omega)]
        by_cases h3 : val x.2 / g = 0
        · simp [h3]
        · have hx0 : val x.2 ≠ 0 := fun e => h3 (by rw [e, Nat.zero_div])
          simp [h3, mkW, hx0, h0]
/-! ### small ones -/
def ofI (n : Int) : Rt := (decide (n < 0), nat n.natAbs, [1])
theorem u64_neg {n : Int} (h : n < 0) (h0 : -9223372036854775808 ≤ n) : IntKind.u64.wrap (0 - IntKind.u64.wrap n) = ((n.natAbs : Nat) : Int) := by rw [mod_u64, mod_u64]; omega
theorem u64_pos {n : Int} (h : ¬ n < 0) (h1 : n ≤ 9223372036854775807) : IntKind.u64.wrap n = ((n.natAbs : Nat) : Int) := by rw [mod_u64]; omega
theorem abs_len (n : Int) (h0 : -9223372036854775808 ≤ n) (h1 : n ≤ 9223372036854775807) : (nat n.natAbs).length ≤ 8 := nat_length_le (by show n.natAbs < 18446744073709551616; omega)
theorem xWOf (n : Int) (h0 : -9223372036854775808 ≤ n) (h1 : n ≤ 9223372036854775807) : whole_Of n = some (decide (n < 0), nat n.natAbs) := by
  have hl := abs_len n h0 h1
  rw [whole_Of_eq]
  by_cases h : n < 0
  · rw [cT (decide_eq_true h), u64_neg h h0, xOf _ (by omega), Option.bind_some, xWMake _ _ (by omega), Option.bind_some, val_nat, mkW, decide_eq_true h, decide_eq_false (by omega)]; rfl
  · rw [cF (decide_eq_false h), u64_pos h h1, xOf _ (by omega), Option.bind_some, xWMake _ _ (by omega), Option.bind_some, val_nat, mkW, decide_eq_false h]; rfl
theorem yWOf (n : Int) (h0 : -9223372036854775808 ≤ n) (h1 : n ≤ 9223372036854775807) : abacistref04_Of n = some (decide (n < 0), nat n.natAbs) := by
  have hl := abs_len n h0 h1
  rw [abacistref04_Of_eq]
  by_cases h : n < 0
  · rw [cT (decide_eq_true h), u64_neg h h0, yOf _ (by omega), Option.bind_some, yWMake _ _ (by omega), Option.bind_some, val_nat, mkW, decide_eq_true h, decide_eq_false (by omega)]; rfl
  · rw [cF (decide_eq_false h), u64_pos h h1, yOf _ (by omega), Option.bind_some, yWMake _ _ (by omega), Option.bind_some, val_nat, mkW, decide_eq_false h]; rfl
theorem xROf (n : Int) (h0 : -9223372036854775808 ≤ n) (h1 : n ≤ 9223372036854775807) : rat_Of n = some (ofI n) := by rw [rat_Of_eq, xWOf n h0 h1]; rfl
theorem Fm.of {n : Int} (h0 : -9223372036854775808 ≤ n) (h1 : n ≤ 9223372036854775807) : Fm (decide (n < 0)) n.natAbs 1 := by
  have := abs_len n h0 h1
  exact ⟨by omega, by rw [nat_one]; simp, by omega, Nat.gcd_one_right _, fun h => decide_eq_false (by omega)⟩
theorem ofI_form (n : Int) : ofI n = (decide (n < 0), nat n.natAbs, nat 1) := by rw [nat_one]; rfl
theorem make_form {s : Bool} {n d : Nat} (h : Fm s n d) : make (s, nat n) (false, nat d) = ((s, nat n, nat d), 0) := by
  have h1 := h.nl
  have h2 := h.dl
  have h3 := h.pos
  unfold make
  simp only [val_nat, h.co, Nat.div_one]
  rw [if_neg (by omega), if_neg (by omega)]
  by_cases h0 : n = 0
  · rw [h.z h0]; rfl
  · rw [decide_eq_false h0]; cases s <;> rfl
theorem yROf (n : Int) (h0 : -9223372036854775808 ≤ n) (h1 : n ≤ 9223372036854775807) : abacistref05_Of n = some (ofI n) := by
  have hl := abs_len n h0 h1
  have := make_form (Fm.of h0 h1)
  rw [abacistref05_Of_eq, yWOf n h0 h1, Option.bind_some, yWOf 1 (by omega) (by omega), Option.bind_some]
  show (abacistref05_Make (decide (n < 0), nat n.natAbs) (false, nat 1)).bind _ = _
  rw [yMake _ _ (by simp only; omega) (by rw [nat_one]; simp), this, ofI_form]; rfl
/-! ### signs, order -/
def signR (r : Rt) : Int := cond (decide (r.2.1 = [])) 0 (cond r.1 (-1) 1)
theorem xSign (r : Rt) : rat_Sign r = some (signR (well r)) := by
  rw [rat_Sign_eq, xWell, Option.bind_some, signR]
  cases decide ((well r).2.1 = []) <;> cases (well r).1 <;> rfl
def tp (r : Rt) : Int := wv (r.1, r.2.1)
def dn (r : Rt) : Int := (val r.2.2 : Int)
def cmpR (a b : Rt) : Int := icmp (tp (well a) * dn (well b)) (tp (well b) * dn (well a))
theorem icmp_mul {x y d : Int} (h : 0 < d) : icmp (x * d) (y * d) = icmp x y := by
  unfold icmp
  by_cases h1 : x < y
  · rw [if_pos h1, if_pos (Int.mul_lt_mul_of_pos_right h1 h)]
  · rw [if_neg h1]
    have h2 : y * d ≤ x * d := Int.mul_le_mul_of_nonneg_right (by omega) (by omega)
    rw [if_neg (by omega)]
    by_cases h3 : x = y
    · rw [if_pos h3, if_pos (by rw [h3])]
    · have h4 : y * d < x * d := Int.mul_lt_mul_of_pos_right (by omega) h
      rw [if_neg h3, if_neg (by omega)]
theorem wv_mul (s : Bool) (n m : Nat) : wv (mkW s (n * m)) = wv (s, nat n) * (m : Int) := by
  rw [wv_mkW]
  unfold wv
  simp only [val_nat]
  cases s <;> simp [Int.neg_mul]
theorem xRCmp (a b : Rt) : rat_Cmp a b = some (cmpR a b) := by
  obtain ⟨s, n, d, e, f⟩ := well_form a
  obtain ⟨t, m, c, e', f'⟩ := well_form b
  have h1 := f.nl
  have h2 := f.dl
  have h3 := f'.nl
  have h4 := f'.dl
  rw [rat_Cmp_eq, xWell, Option.bind_some, xWell, Option.bind_some, rat_crossed_eq, cmpR, e, e']
  simp only [xTop, xLow, Option.bind_some]
  by_cases hd : nat d = nat c
  · obtain rfl := nat_inj.1 hd
    rw [cT (decide_eq_true hd), Option.bind_some, xWCmp _ _ (by simp only; omega) (by simp only; omega), Option.bind_some]
    unfold tp dn
    simp only [val_nat]
    rw [icmp_mul (by have := f.pos; omega)]
  · rw [cF (decide_eq_false hd), xWMul _ _ (by simp only; omega) (by simp only; omega), Option.bind_some, xWMul _ _ (by simp only; omega) (by simp only; omega), Option.bind_some, Option.bind_some]
    have l1 : (mkW (!(s == false)) (val (nat n) * val (nat c))).2.length ≤ 1000000000 := by
      show (nat _).length ≤ _
      have := mul_len (nat n) (nat c); omega
    have l2 : (mkW (!(t == false)) (val (nat m) * val (nat d))).2.length ≤ 1000000000 := by
      show (nat _).length ≤ _
      have := mul_len (nat m) (nat d); omega
    simp only
    rw [xWCmp _ _ l1 l2, Option.bind_some, val_nat, val_nat, val_nat, val_nat, wv_mul, wv_mul]
    unfold tp dn
    simp only [val_nat]
    cases s <;> cases t <;> rfl
theorem yRCmp (a b : Rt) : abacistref05_Cmp a b = some (cmpR a b) := by
  obtain ⟨s, n, d, e, f⟩ := well_form a
  obtain ⟨t, m, c, e', f'⟩ := well_form b
  have h1 := f.nl
  have h2 := f.dl
  have h3 := f'.nl
  have h4 := f'.dl
  rw [abacistref05_Cmp_eq, yTop e f, Option.bind_some, yLow e' f', Option.bind_some, yWMul _ _ (by simp only; omega) (by simp only; omega), Option.bind_some, yTop e' f', Option.bind_some, yLow e f, Option.bind_some, yWMul _ _ (by simp only; omega) (by simp only; omega), Option.bind_some, cmpR, e, e']
  simp only [val_nat, mkW_form f, mkW_form f']
  have l1 : ∀ q, (mkW q (n * c)).2.length ≤ 1000000000 := by
    intro q
    show (nat _).length ≤ _
    have := mul_len (nat n) (nat c)
    rw [val_nat, val_nat] at this; omega
  have l2 : ∀ q, (mkW q (m * d)).2.length ≤ 1000000000 := by
    intro q
    show (nat _).length ≤ _
    have := mul_len (nat m) (nat d)
    rw [val_nat, val_nat] at this; omega
  rw [yWCmp _ _ (l1 _) (l2 _), Option.bind_some, wv_mul, wv_mul]
  unfold tp dn
  simp only [val_nat]
  cases s <;> cases t <;> rfl
/-! ### opposites, amounts -/
def negR (r : Rt) : Rt := (!(well r).1 && !decide ((well r).2.1 = []), (well r).2)
theorem xNeg (r : Rt) : rat_Neg r = some (negR r) := by
  rw [rat_Neg_eq, xWell, Option.bind_some, negR]
  simp only [rat_Neg_1_eq]
  cases (well r).1 <;> rfl
theorem Fm.neg {s : Bool} {n d : Nat} (h : Fm s n d) : negR (s, nat n, nat d) = (!s && !decide (n = 0), nat n, nat d) := by unfold negR; rw [h.well, nilD]
end Go.Proofs.YtodfaihlddiokaaGreatDoor.D

/- Numbers as texts: plain Lean; the program's and the reference's. -/
set_option linter.unusedVariables false
set_option linter.unusedSimpArgs false
namespace Go.Proofs.YtodfaihlddiokaaGreatDoor.D
open Go Go.Proofs.YtodfaihlddiokaaGreatDoor.K
open Go.Proofs.YtodfaihlddiokaaGreatDoor.P (nat val divmod small val_nat nat_zero nat_eq_nil nat_val_length nat_length_le len_mono val_lt nat_inj sgnv powR powV nat_one wS nat_ten_len inC dv good dig dig_le dv_nil dv_snoc dv_append dv_cons dv_lt decT decT_good decT_dv decT_ne decT_len)
/-! ### texts -/
def pos (c : UInt8) : List UInt8 → Option Nat
  | [] => none
  | b :: s => if b = c then some 0 else (pos c s).map (· + 1)
def cutV (c : UInt8) (s : List UInt8) : List UInt8 × List UInt8 × Bool :=
  match pos c s with
  | none => (s, [], false)
  | some k => (s.take k, s.drop (k + 1), true)
theorem indexByte_pos (c : UInt8) : ∀ s : List UInt8, Lib.indexByte s c = (match pos c s with
    | none => -1
    | some k => (k : Int))
  | [] => rfl
  | b :: s => by
    simp only [Lib.indexByte, pos, indexByte_pos c s]
    by_cases h : b = c
    · simp [h]
    · rw [if_neg h, if_neg (by simpa using h)]
      cases pos c s with
      | none => rfl
      | some k => simp
theorem pos_lt {c : UInt8} : ∀ {s : List UInt8} {k : Nat}, pos c s = some k → k < s.length
  | [], k, h => by simp [pos] at h
  | b :: s, k, h => by
    simp only [pos] at h
    split at h
    · cases h; simp
    · cases hp : pos c s with
      | none => rw [hp] at h; cases h
      | some j => rw [hp] at h; have := pos_lt hp; simp at h; simp; omega
theorem xCut (c : UInt8) (s : List UInt8) (h : s.length < 4294967281) : strings_Cut s [c] = some (cutV c s) := by
  refine (top_call ..).trans ?_
  show cutF (s, [c]) = _
  unfold cutF
  rw [decide_eq_true h]
  show some (Lib.cut s [c]) = _
  congr 1
  unfold Lib.cut cutV
  rw [Lib.index_one, indexByte_pos]
  cases pos c s with
  | none => rfl
  | some k => simp only [Int.toNat_natCast]; rw [if_pos (by omega)]; rfl
theorem getD_drop {s : List UInt8} {i : Nat} (h : i < s.length) : s.drop i = s.getD i 0 :: s.drop (i + 1) := by rw [List.drop_eq_getElem_cons h, good_get h]
def findV (c : UInt8) (s : List UInt8) : Int := match pos c s with
  | none => -1
  | some k => (k : Int)
def preV (c : UInt8) (s : List UInt8) : List UInt8 × Bool := match s with
  | [] => ([], false)
  | b :: t => if b = c then (t, true) else (b :: t, false)
theorem hasPre (c : UInt8) (s : List UInt8) : internal_stringslite_HasPrefix s [c] = some (preV c s).2 := by
  rw [internal_stringslite_HasPrefix_eq]
  cases s with
  | nil => rfl
  | cons b t =>
    rw [cT (decide_eq_true (by simp; omega)), cT (by simp; omega), preV]
    by_cases h : b = c
    · simp [h]
    · simp [h]
theorem xPre (c : UInt8) (s : List UInt8) : strings_CutPrefix s [c] = some (preV c s) := by
  rw [strings_CutPrefix_eq, internal_stringslite_CutPrefix_eq, hasPre, Option.bind_some]
  cases s with
  | nil => rfl
  | cons b t =>
    unfold preV
    by_cases h : b = c
    · have : (1 : Int) ≤ (t.length : Int) + 1 := by omega
      simp [h, this]
    · simp [h]
theorem pre_len (c : UInt8) (s : List UInt8) : (preV c s).1.length ≤ s.length := by
  unfold preV
  split
  · exact Nat.le_refl _
  · split <;> simp
def dg (s : List UInt8) : Bool := good s && !decide (s = [])
theorem xDigits1 (s : List UInt8) (hs : s.length ≤ 9223372036854775807) : ∀ (m i : Nat), i + m = s.length → numtext_digits_1 s (s.map fun b => (b.toNat : Int)) ((s.map fun b => (b.toNat : Int)).length : Int) (i : Int) = some (good (s.drop i) && !decide (s = []))
  | 0, i, h => by
    rw [numtext_digits_1_eq, cF (decide_eq_false (by rw [List.length_map]; omega)), List.drop_of_length_le (by omega)]; rfl
  | m + 1, i, h => by
    have hi : i < s.length := by omega
    have hg : (s.map fun b => (b.toNat : Int)).getD (i : Int).toNat 0 = ((s.getD i 0).toNat : Int) := by simp [List.getD, hi]
    have next : numtext_digits_2 s (s.map fun b => (b.toNat : Int)) ((s.map fun b => (b.toNat : Int)).length : Int) (i : Int) false = some (good (s.drop (i + 1)) && !decide (s = [])) := by
      rw [numtext_digits_2_eq, cond_false, wS (by omega)]; exact xDigits1 s hs m (i + 1) (by omega)
    have stop : numtext_digits_2 s (s.map fun b => (b.toNat : Int)) ((s.map fun b => (b.toNat : Int)).length : Int) (i : Int) true = some false := by rw [numtext_digits_2_eq, cond_true]
    rw [numtext_digits_1_eq, cT (decide_eq_true (by rw [List.length_map]; omega)), cT (by rw [List.length_map]; exact ix hi), hg, good_drop hi]
    generalize s.getD i 0 = c
    by_cases h1 : c.toNat < 48
    · rw [cT (decide_eq_true (by omega)), stop, show dig c = false by unfold dig; simp; omega]; rfl
    · rw [cF (decide_eq_false (by omega))]
      by_cases h2 : c.toNat > 57
      · rw [decide_eq_true (show (c.toNat : Int) > 57 by omega), stop, show dig c = false by unfold dig; simp; omega]; rfl
      · rw [decide_eq_false (show ¬ (c.toNat : Int) > 57 by omega), next, show dig c = true by unfold dig; simp; omega]; rfl
theorem xDigits (s : List UInt8) (hs : s.length ≤ 9223372036854775807) : numtext_digits s = some (dg s) := (numtext_digits_eq s).trans (xDigits1 s hs s.length 0 (Nat.zero_add _))
/-! ### powers -/
theorem pow_small {b : Nat} (hb : b < 256) (n : Nat) : (nat (b ^ n)).length ≤ n + 1 := by
  rcases Nat.eq_zero_or_pos n with h | h
  · subst h; rw [Nat.pow_zero, nat_one]; simp
  · exact Nat.le_trans (nat_length_le (Nat.pow_lt_pow_left hb (by omega))) (by omega)
theorem powR_small {b n : Nat} (hb : 2 ≤ b) (hb2 : b < 256) (hn : n ≤ 1000) : powR b (n : Int) = (nat (b ^ n), 0) := by
  unfold powR
  rw [if_neg (by omega)]
  by_cases h : n = 0
  · subst h; rw [if_pos (by rfl), Nat.pow_zero, nat_one]
  · have := pow_small hb2 n
    rw [if_neg (by omega), if_neg (by omega), powV, Int.toNat_natCast, if_neg (by omega)]
theorem xPower {b n : Nat} (hb : 2 ≤ b) (hb2 : b < 256) (hn : n ≤ 1000) : numtext_power (b : Int) (n : Int) = some (nat (b ^ n)) := by
  have hl : (nat b).length ≤ 1 := nat_length_le (by omega)
  rw [numtext_power_eq, xOf _ (by omega), Option.bind_some, xPow _ _ (by omega) (by omega), Option.bind_some, val_nat, powR_small hb hb2 hn]; rfl
/-! ### where a number ends -/
theorem ord_dvd (b : Nat) (hb : 2 ≤ b) : ∀ (m : Nat), m ≠ 0 → b ^ ordB b m ∣ m := by
  intro m
  induction m using Nat.strongRecOn with
  | _ m ih =>
    intro h0
    by_cases h : m % b = 0
    · have hd : m / b < m := Nat.div_lt_self (by omega) (by omega)
      have hm : m = b * (m / b) := by have := Nat.div_add_mod m b; omega
      have h1 : m / b ≠ 0 := fun e => by rw [e, Nat.mul_zero] at hm; exact h0 hm
      rw [ord_go b m h0 hb h, Nat.pow_succ, Nat.mul_comm]
      conv => rhs; rw [hm]
      exact Nat.mul_dvd_mul_left b (ih _ hd h1)
    · rw [ord_stop b m (.inr h), Nat.pow_zero]; exact Nat.one_dvd m
theorem ord_le (b m : Nat) (hb : 2 ≤ b) (h0 : m ≠ 0) (hl : (nat m).length ≤ 32) : ordB b m ≤ 256 := by
  have h1 := Nat.le_of_dvd (by omega) (ord_dvd b hb m h0)
  have h2 : 2 ^ ordB b m ≤ b ^ ordB b m := Nat.pow_le_pow_left hb _
  have h3 := val_lt (nat m)
  rw [val_nat, pow8] at h3
  have h4 : 2 ^ (8 * (nat m).length) ≤ 2 ^ 256 := Nat.pow_le_pow_right (by decide) (by omega)
  rcases Nat.lt_or_ge 256 (ordB b m) with h | h
  · have h5 := pow_half h (Nat.le_trans (Nat.le_trans h2 h1) (show m ≤ 2 * m by omega))
    generalize (2 : Nat) ^ 256 = X at h4 h5
    have h6 : m < X := by omega
    omega
  · exact h
def endsN (d : Nat) : Nat × Bool := if 2 ^ ordB 2 d * 5 ^ ordB 5 d = d then (max (ordB 2 d) (ordB 5 d), true) else (0, false)
theorem ends_le {d : Nat} (h0 : d ≠ 0) (hl : (nat d).length ≤ 32) : (endsN d).1 ≤ 256 := by
  unfold endsN
  have h2 := ord_le 2 d (by omega) h0 hl
  have h5 := ord_le 5 d (by omega) h0 hl
  split
  · simp only; omega
  · exact Nat.zero_le _
end Go.Proofs.YtodfaihlddiokaaGreatDoor.D

/- Numbers in digits, and as texts: plain Lean; the program's and the reference's. -/
set_option linter.unusedVariables false
set_option linter.unusedSimpArgs false
namespace Go.Proofs.YtodfaihlddiokaaGreatDoor.D
open Go Go.Proofs.YtodfaihlddiokaaGreatDoor.K
open Go.Proofs.YtodfaihlddiokaaGreatDoor.P (nat val divmod small val_nat nat_zero nat_eq_nil nat_val_length nat_length_le len_mono val_lt nat_inj sgnv powR powV nat_one wS wA wD nat_ten_len inC ten ten_len decT decT_len decT_ne decT_good decT_dv dv good dig dig_le dv_nil dv_snoc dv_append dv_cons dv_lt)
def ptN (n : Nat) (s : List UInt8) : List UInt8 :=
  if n = 0 then s else (List.replicate (n + 1 - s.length) 48 ++ s).take ((List.replicate (n + 1 - s.length) 48 ++ s).length - n) ++ [46] ++ (List.replicate (n + 1 - s.length) 48 ++ s).drop ((List.replicate (n + 1 - s.length) 48 ++ s).length - n)
theorem ten_pow : ∀ j : Nat, 10 ^ (12 * j) ≤ 256 ^ (5 * j)
  | 0 => Nat.le_refl _
  | j + 1 => by
    rw [Nat.mul_succ, Nat.mul_succ, Nat.pow_add, Nat.pow_add]
    exact Nat.mul_le_mul (ten_pow j) (by decide)
theorem ten_len_gen {j k : Nat} (h : k ≤ 12 * j) : (nat (10 ^ k)).length ≤ 5 * j + 1 := by
  have h1 : 10 ^ k ≤ 10 ^ (12 * j) := Nat.pow_le_pow_right (by omega) h
  have h2 := ten_pow j
  refine nat_length_le ?_
  have h3 : 256 ^ (5 * j) < 256 ^ (5 * j + 1) := Nat.pow_lt_pow_right (by omega) (by omega)
  generalize 10 ^ (12 * j) = X at h1 h2
  generalize 256 ^ (5 * j) = Y at h2 h3
  omega
theorem ten_len256 {k : Nat} (h : k ≤ 256) : (nat (10 ^ k)).length ≤ 111 := ten_len_gen (j := 22) (by omega)
theorem ntT {x : Bool} (h : true = !x) : x = false := by cases x <;> simp_all
theorem ntF {x : Bool} (h : false = !x) : x = true := by cases x <;> simp_all
theorem lim78 : (256 : Nat) ^ 32 ≤ 10 ^ 78 := Nat.le_of_ble_eq_true rfl
theorem lt78 {n : Nat} (h : (nat n).length ≤ 32) : n < 10 ^ 78 := by
  have h1 := val_lt (nat n)
  rw [val_nat] at h1
  exact Nat.lt_of_lt_of_le h1 (Nat.le_trans (Nat.pow_le_pow_right (by decide) h) lim78)
theorem q_len {n d k : Nat} (h : (nat n).length ≤ 32) : (decT (n * 10 ^ k / d)).length ≤ 78 + k := by
  refine decT_len ?_ (by omega)
  refine Nat.lt_of_le_of_lt (Nat.div_le_self _ _) ?_
  rw [Nat.pow_add]
  exact Nat.mul_lt_mul_of_pos_right (lt78 h) (Nat.pow_pos (by decide))
theorem q_nat {n d k : Nat} (h : (nat n).length ≤ 32) (hk : k ≤ 256) : (nat (n * 10 ^ k)).length ≤ 143 := by
  have h1 := mul_len (nat n) (nat (10 ^ k))
  have h2 := ten_len256 hk
  rw [val_nat, val_nat] at h1
  omega
/-- Cutting in a point. -/
theorem pt_cut (p : List UInt8) (k : Nat) (hk : k ≤ p.length) (hl : p.length ≤ 1000000) :
    cond (decide (0 ≤ (IntKind.i64.wrap ((p.length : Int) - (k : Int)))) && decide ((IntKind.i64.wrap ((p.length : Int) - (k : Int))) ≤ (p.length : Int))) (cond (Nat.ble ((p.take ((IntKind.i64.wrap ((p.length : Int) - (k : Int))).toNat)).length + ([46] : List UInt8).length) 9223372036854775807) (cond (decide (0 ≤ (IntKind.i64.wrap ((p.length : Int) - (k : Int)))) && decide ((IntKind.i64.wrap ((p.length : Int) - (k : Int))) ≤ (p.length : Int))) (cond (Nat.ble (((p.take ((IntKind.i64.wrap ((p.length : Int) - (k : Int))).toNat)) ++ ([46] : List UInt8)).length + (p.drop ((IntKind.i64.wrap ((p.length : Int) - (k : Int))).toNat)).length) 9223372036854775807) (some (((p.take ((IntKind.i64.wrap ((p.length : Int) - (k : Int))).toNat)) ++ ([46] : List UInt8)) ++ (p.drop ((IntKind.i64.wrap ((p.length : Int) - (k : Int))).toNat)), true)) none) none) none) none
      = some (p.take (p.length - k) ++ [46] ++ p.drop (p.length - k), true) := by
  have e : IntKind.i64.wrap ((p.length : Int) - (k : Int)) = ((p.length - k : Nat) : Int) := wD hk (by omega)
  rw [e, cT (inC (by omega)), cT (Nat.ble_eq_true_of_le (by simp; omega)), cT (inC (by omega)), Int.toNat_natCast, cT (Nat.ble_eq_true_of_le (by simp; omega))]
/-! ### texts of numbers -/
def textF (s : Bool) (n d : Nat) : List UInt8 :=
  cond s [45] [] ++ cond ((endsN d).2 && decide ((endsN d).1 ≤ 20)) (ptN (endsN d).1 (decT (n * 10 ^ (endsN d).1 / d))) (decT n ++ [47] ++ decT d)
theorem d_len {n : Nat} (h : (nat n).length ≤ 32) : (decT n).length ≤ 78 := decT_len (lt78 h) (by omega)
theorem pt_len (k : Nat) (t : List UInt8) (h : t.length ≤ 1000) (hk : k ≤ 1000) : (ptN k t).length ≤ max t.length (k + 1) + 1 := by
  unfold ptN
  split
  · omega
  · simp; omega
theorem text_len {s : Bool} {n d : Nat} (f : Fm s n d) : (textF s n d).length ≤ 158 := by
  have h1 := f.nl
  have h2 := f.dl
  have hdn := d_len h1
  have hdd := d_len h2
  have hq := q_len (d := d) (k := (endsN d).1) h1
  unfold textF
  have hs : (cond s [45] [] : List UInt8).length ≤ 1 := by cases s <;> simp
  rw [List.length_append]
  cases hb : (endsN d).2 && decide ((endsN d).1 ≤ 20) with
  | true =>
    rw [Bool.and_eq_true] at hb
    have h20 := of_decide_eq_true hb.2
    have hpt := pt_len (endsN d).1 (decT (n * 10 ^ (endsN d).1 / d)) (by omega) (by omega)
    rw [cond_true]; omega
  | false => rw [cond_false]; simp; omega
end Go.Proofs.YtodfaihlddiokaaGreatDoor.D

/- Texts as numbers: plain Lean; the program's and the reference's; the two laws. -/
set_option linter.unusedVariables false
set_option linter.unusedSimpArgs false
namespace Go.Proofs.YtodfaihlddiokaaGreatDoor.D
open Go Go.Proofs.YtodfaihlddiokaaGreatDoor.K
open Go.Proofs.YtodfaihlddiokaaGreatDoor.P (nat val divmod small val_nat nat_zero nat_eq_nil nat_val_length nat_length_le len_mono val_lt nat_inj sgnv powR powV nat_one wS wA wD nat_ten_len inC ten ten_len decT decT_len decT_ne decT_good decT_dv dv_lt dv good dig dig_le dv_nil dv_snoc dv_append dv_cons)
def z0 : Rt := (false, [], [])
theorem pt_cut_len {c : UInt8} {s : List UInt8} {k : Nat} (h : pos c s = some k) : (s.take k ++ s.drop (k + 1)).length + 1 = s.length := by
  have := pos_lt h
  simp; omega
def decV (s : List UInt8) : Rt × Int :=
  cond (!dg (cutV 46 s).1 || ((cutV 46 s).2.2 && !dg (cutV 46 s).2.1)) (z0, 10) (cond (decide (s.length > 400)) (z0, 9) (make (false, nat (dv ((cutV 46 s).1 ++ (cutV 46 s).2.1))) (false, nat (10 ^ (cutV 46 s).2.1.length))))
theorem cut_len (c : UInt8) (s : List UInt8) : (cutV c s).1.length + (cutV c s).2.1.length ≤ s.length := by
  unfold cutV
  cases h : pos c s with
  | none => simp
  | some k => have := pt_cut_len h; simp only [List.length_append] at this; simp only; omega
theorem cut_no {c : UInt8} {s : List UInt8} (h : (cutV c s).2.2 = false) : (cutV c s).2.1 = [] := by
  unfold cutV at h ⊢
  cases hp : pos c s with
  | none => rfl
  | some k => rw [hp] at h; cases h
theorem good_append (a b : List UInt8) : good (a ++ b) = (good a && good b) := by unfold good; rw [List.all_append]
theorem parse_good {s : List UInt8} (hg : good s = true) (h0 : s ≠ []) (hl : s.length ≤ 400) : parseV s = (nat (dv s), 0) := by rw [parseV, if_neg (by simp [h0, hg]), if_neg (by omega)]
theorem mkF (n : Nat) : mkW false n = (false, nat n) := rfl
theorem xDec (s : List UInt8) (hs : s.length ≤ 100000) : numtext_Decimal s = some (decV s) := by
  have hc := cut_len 46 s
  have hno := @cut_no 46 s
  have key : ∀ (a b : List UInt8) (pt : Bool), a.length + b.length ≤ s.length → (pt = false → b = []) → dg a = true → (pt = true → dg b = true) → numtext_Decimal_1 s a b false z0 = some (cond (decide (s.length > 400)) (z0, 9) (make (false, nat (dv (a ++ b))) (false, nat (10 ^ b.length)))) := by
    intro a b pt hab hb ha hb2
    rw [numtext_Decimal_1_eq, cond_false]
    by_cases hl : s.length > 400
    · rw [cT (decide_eq_true (by omega)), decide_eq_true hl]; rfl
    · have ha' : good a = true ∧ a ≠ [] := by simpa [dg] using ha
      have hgb : good b = true := by
        cases pt with
        | false => rw [hb rfl]; rfl
        | true => have : good b = true ∧ b ≠ [] := by simpa [dg] using hb2 rfl
                  exact this.1
      have hgab : good (a ++ b) = true := by rw [good_append, ha'.1, hgb]; rfl
      have hp : parseV (a ++ b) = (nat (dv (a ++ b)), 0) := parse_good hgab (by simp [ha'.2]) (by simp; omega)
      have hdl := nat_ten_len (dv_lt (a ++ b) hgab)
      have hpl := pow_small (b := 10) (by omega) b.length
      simp only [List.length_append] at hdl
      rw [cF (decide_eq_false (by omega)), cT (Nat.ble_eq_true_of_le (by omega)), xParse _ (by simp; omega), Option.bind_some, hp]
      simp only
      rw [cF (by rfl), xWMake _ _ (by omega), Option.bind_some, show numtext_power 10 (b.length : Int) = _ from xPower (b := 10) (by omega) (by omega) (by omega), Option.bind_some, xWMake _ _ (by omega), Option.bind_some, mkF, mkF, val_nat, val_nat, xMake _ _ (by simp only; omega) (by simp only; omega), Option.bind_some, decide_eq_false hl, cond_false]
  rw [numtext_Decimal_eq, xCut 46 s (by omega), Option.bind_some, xDigits _ (by omega), Option.bind_some, decV]
  generalize hcv : cutV 46 s = cv at hc hno
  obtain ⟨a, b, pt⟩ := cv
  simp only at hc hno ⊢
  cases ha : dg a with
  | false => rw [cT (by rfl), numtext_Decimal_1_eq]; rfl
  | true =>
    rw [cF (by rfl)]
    cases pt with
    | false =>
      rw [cond_false]
      exact key a b false hc (fun _ => hno rfl) ha (fun h => by cases h)
    | true =>
      rw [cond_true, xDigits _ (by omega), Option.bind_some]
      cases hb : dg b with
      | false => rw [numtext_Decimal_1_eq]; rfl
      | true => exact key a b true hc (fun h => by cases h) ha (fun _ => hb)
def fracV (a b : List UInt8) : Rt × Int :=
  cond (decide ((parseV a).2 = 3) || decide ((parseV b).2 = 3)) (z0, 10) (cond (!decide ((parseV a).2 = 0) || !decide ((parseV b).2 = 0)) (z0, 9) (make (false, (parseV a).1) (false, (parseV b).1)))
theorem parse_or (s : List UInt8) : parseV s = ([], 3) ∨ parseV s = ([], 9) ∨ ∃ n, (nat n).length ≤ 400 ∧ parseV s = (nat n, 0) := by
  rw [parseV]
  by_cases h : s = [] ∨ good s = false
  · rw [if_pos h]; exact .inl rfl
  · rw [if_neg h]
    by_cases hl : s.length > 400
    · rw [if_pos hl]; exact .inr (.inl rfl)
    · have hg : good s = true := by
        cases hg : good s with
        | true => rfl
        | false => exact absurd (.inr hg) h
      rw [if_neg hl]
      exact .inr (.inr ⟨dv s, Nat.le_trans (nat_ten_len (dv_lt s hg)) (by omega), rfl⟩)
theorem xFrac (a b : List UInt8) (ha : a.length ≤ 100000) (hb : b.length ≤ 100000) : numtext_fraction a b = some (fracV a b) := by
  rw [numtext_fraction_eq, xParse _ (by omega), Option.bind_some, xParse _ (by omega), Option.bind_some, fracV]
  simp only [numtext_fraction_1_eq, numtext_fraction_2_eq]
  rcases parse_or a with h | h | ⟨n, hn, h⟩ <;> rcases parse_or b with k | k | ⟨m, hm, k⟩ <;> rw [h, k] <;> first
    | rfl
    | (simp only
       rw [xWMake _ _ (by omega), xWMake _ _ (by omega)]
       simp only [Option.bind_some, mkF, val_nat]
       rw [xMake _ _ (by simp only; omega) (by simp only; omega)]
       rfl)
def bodyV (t : List UInt8) : Rt × Int := cond (cutV 47 t).2.2 (fracV (cutV 47 t).1 (cutV 47 t).2.1) (decV t)
def parseN (s : List UInt8) : Rt × Int := cond (decide ((bodyV (preV 45 s).1).2 = 0) && (preV 45 s).2) (negR (bodyV (preV 45 s).1).1, (bodyV (preV 45 s).1).2) (bodyV (preV 45 s).1)
theorem xParseN (s : List UInt8) (hs : s.length ≤ 100000) : numtext_Parse s = some (parseN s) := by
  have hl := pre_len 45 s
  have hc := cut_len 47 (preV 45 s).1
  have tail : ∀ (q : Rt × Int) (neg : Bool), numtext_Parse_1 neg q.2 (false, [], []) q.1 = some (cond (decide (q.2 = 0) && neg) (negR q.1, q.2) q) := by
    intro q neg
    simp only [numtext_Parse_1_eq, numtext_Parse_2_eq, numtext_Parse_3_eq, xNeg, Option.bind_some]
    cases decide (q.2 = 0) <;> cases neg <;> rfl
  rw [numtext_Parse_eq, xPre, Option.bind_some, xCut 47 _ (by omega), Option.bind_some, xFrac _ _ (by omega) (by omega), xDec _ (by omega), Option.bind_some, Option.bind_some, tail, tail, parseN, bodyV]
  cases (cutV 47 (preV 45 s).1).2.2 <;> rfl
/-! ### the laws -/
/-! ### a text is read as its number -/
theorem dig_ne {c : UInt8} (h : dig c = true) : c ≠ 45 ∧ c ≠ 46 ∧ c ≠ 47 := by
  have := dig_le h
  refine ⟨?_, ?_, ?_⟩ <;> (rintro rfl; simp at this)
theorem pos_none {c : UInt8} : ∀ {s : List UInt8}, (∀ b ∈ s, b ≠ c) → pos c s = none
  | [], _ => rfl
  | b :: s, h => by
    simp only [pos]
    rw [if_neg (h b (by simp)), pos_none fun x hx => h x (by simp [hx])]; rfl
theorem pos_here {c : UInt8} : ∀ {a b : List UInt8}, (∀ x ∈ a, x ≠ c) → pos c (a ++ c :: b) = some a.length
  | [], b, _ => by simp [pos]
  | x :: a, b, h => by
    simp only [List.cons_append, pos]
    rw [if_neg (h x (by simp)), pos_here fun y hy => h y (by simp [hy])]; rfl
theorem good_mem {s : List UInt8} (h : good s = true) {b : UInt8} (hb : b ∈ s) : dig b = true := List.all_eq_true.1 h b hb
theorem cut_here {c : UInt8} {a b : List UInt8} (h : ∀ x ∈ a, x ≠ c) : cutV c (a ++ c :: b) = (a, b, true) := by
  unfold cutV
  rw [pos_here h]
  simp only [List.take_left', List.length_append]
  congr 2
  rw [List.drop_append, List.drop_of_length_le (by omega)]; simp
theorem cut_none {c : UInt8} {s : List UInt8} (h : ∀ x ∈ s, x ≠ c) : cutV c s = (s, [], false) := by
  unfold cutV
  rw [pos_none h]
theorem dg_of {s : List UInt8} (hg : good s = true) (h0 : s ≠ []) : dg s = true := by unfold dg; rw [hg, decide_eq_false h0]; rfl
theorem dv_zeros : ∀ (k : Nat) (s : List UInt8), dv (List.replicate k 48 ++ s) = dv s
  | 0, s => rfl
  | k + 1, s => by
    rw [List.replicate_succ, List.cons_append, dv_cons, dv_zeros k s]; simp
theorem good_zeros (k : Nat) : good (List.replicate k 48) = true := by
  unfold good
  rw [List.all_replicate]
  cases k <;> rfl
/-- A number's digits are read as it. -/
theorem dec_pt {n d : Nat} (f : Fm false n d) (he : (endsN d).2 = true) (hl : (ptN (endsN d).1 (decT (n * 10 ^ (endsN d).1 / d))).length ≤ 400) : decV (ptN (endsN d).1 (decT (n * 10 ^ (endsN d).1 / d))) = ((false, nat n, nat d), 0) ∧ ∀ x ∈ ptN (endsN d).1 (decT (n * 10 ^ (endsN d).1 / d)), x ≠ 45 ∧ x ≠ 47 := by
  have h0 := f.pos
  have hd : d ∣ 10 ^ (endsN d).1 := by
    unfold endsN at he ⊢
    by_cases h : 2 ^ ordB 2 d * 5 ^ ordB 5 d = d
    · rw [if_pos h]
      simp only
      conv => lhs; rw [← h]
      rw [show (10 : Nat) = 2 * 5 from rfl, Nat.mul_pow]
      exact Nat.mul_dvd_mul (Nat.pow_dvd_pow 2 (Nat.le_max_left _ _)) (Nat.pow_dvd_pow 5 (Nat.le_max_right _ _))
    · rw [if_neg h] at he; cases he
  have hz : (endsN d).1 = 0 → d = 1 := by
    intro h
    rw [h, Nat.pow_zero] at hd
    exact Nat.dvd_one.1 hd
  generalize (endsN d).1 = k at hd hz hl ⊢
  obtain ⟨c, hc⟩ := hd
  have hq : n * 10 ^ k / d = n * c := by rw [hc, ← Nat.mul_assoc, Nat.mul_comm n d, Nat.mul_assoc, Nat.mul_div_cancel_left _ h0]
  have hc0 : 0 < c := by
    rcases Nat.eq_zero_or_pos c with h | h
    · rw [h, Nat.mul_zero] at hc; have := Nat.pow_pos (n := k) (show 0 < 10 by decide); omega
    · exact h
  have mk : make (false, nat (n * c)) (false, nat (10 ^ k)) = ((false, nat n, nat d), 0) := by
    have := make_form f
    unfold make at this ⊢
    simp only [val_nat] at this ⊢
    rw [hc, Nat.gcd_mul_right, f.co, Nat.one_mul, Nat.mul_div_cancel _ hc0, Nat.mul_div_cancel _ hc0]
    have hne : d * c ≠ 0 := Nat.mul_ne_zero (by omega) (by omega)
    rw [if_neg hne]
    rw [if_neg (by omega), f.co, Nat.div_one, Nat.div_one] at this
    exact this
  rw [hq] at hl ⊢
  by_cases hk : k = 0
  · subst hk
    rw [ptN, if_pos rfl] at hl ⊢
    have hg := decT_good (n * c)
    refine ⟨?_, fun x hx => ⟨(dig_ne (good_mem hg hx)).1, (dig_ne (good_mem hg hx)).2.2⟩⟩
    rw [decV, cut_none fun x hx => (dig_ne (good_mem hg hx)).2.1]
    simp only
    rw [dg_of hg (decT_ne _), decide_eq_false (by omega), List.append_nil, decT_dv]
    exact mk
  · rw [ptN, if_neg hk] at hl ⊢
    generalize hp : List.replicate (k + 1 - (decT (n * c)).length) 48 ++ decT (n * c) = p at hl ⊢
    have hgp : good p = true := by rw [← hp, good_append, good_zeros, decT_good]; rfl
    have hdp : dv p = n * c := by rw [← hp, dv_zeros, decT_dv]
    have hlp : k + 1 ≤ p.length := by rw [← hp]; simp; omega
    have g1 : good (p.take (p.length - k)) = true := good_take hgp _
    have g2 : good (p.drop (p.length - k)) = true := good_dropT hgp _
    have l2 : (p.drop (p.length - k)).length = k := by simp; omega
    have n1 : p.take (p.length - k) ≠ [] := fun e => by have := congrArg List.length e; simp at this; omega
    have n2 : p.drop (p.length - k) ≠ [] := fun e => by rw [e] at l2; simp at l2; omega
    rw [List.append_assoc, show ([46] : List UInt8) ++ p.drop (p.length - k) = 46 :: p.drop (p.length - k) from rfl] at hl ⊢
    refine ⟨?_, fun x hx => ?_⟩
    · rw [decV, cut_here fun x hx => (dig_ne (good_mem g1 hx)).2.1]
      simp only
      rw [dg_of g1 n1, dg_of g2 n2, decide_eq_false (by omega), List.take_append_drop, hdp, l2]
      exact mk
    · rcases List.mem_append.1 hx with h | h
      · exact ⟨(dig_ne (good_mem g1 h)).1, (dig_ne (good_mem g1 h)).2.2⟩
      · rcases List.mem_cons.1 h with h | h
        · subst h; exact ⟨by decide, by decide⟩
        · exact ⟨(dig_ne (good_mem g2 h)).1, (dig_ne (good_mem g2 h)).2.2⟩
theorem Fm.pos' {s : Bool} {n d : Nat} (f : Fm s n d) : Fm false n d := ⟨f.nl, f.dl, f.pos, f.co, fun _ => rfl⟩
theorem parse_text {s : Bool} {n d : Nat} (f : Fm s n d) : parseN (textF s n d) = ((s, nat n, nat d), 0) := by
  have h1 := f.nl
  have h2 := f.dl
  have hdn := d_len h1
  have hdd := d_len h2
  have hq := q_len (d := d) (k := (endsN d).1) h1
  have hk := ends_le (by have := f.pos; omega : d ≠ 0) h2
  -- the text without its sign
  have key : ∃ t, textF s n d = cond s [45] [] ++ t ∧ t ≠ [] ∧ (∀ x, t.head? = some x → x ≠ 45) ∧ bodyV t = ((false, nat n, nat d), 0) := by
    refine ⟨_, rfl, ?_⟩
    cases hb : (endsN d).2 && decide ((endsN d).1 ≤ 20) with
    | true =>
      rw [Bool.and_eq_true] at hb
      have h20 := of_decide_eq_true hb.2
      have hpt := pt_len (endsN d).1 (decT (n * 10 ^ (endsN d).1 / d)) (by omega) (by omega)
      obtain ⟨e1, e2⟩ := dec_pt f.pos' hb.1 (by omega)
      rw [cond_true]
      refine ⟨?_, fun x hx => (e2 x (List.mem_of_mem_head? hx)).1, ?_⟩
      · unfold ptN
        split
        · exact decT_ne _
        · simp
      · rw [bodyV, cut_none fun x hx => (e2 x hx).2]; exact e1
    | false =>
      have gn := decT_good n
      have gd := decT_good d
      rw [cond_false, List.append_assoc]
      refine ⟨by simp, fun x hx => ?_, ?_⟩
      · cases hn : decT n with
        | nil => exact absurd hn (decT_ne n)
        | cons c l =>
          rw [hn] at hx gn
          simp at hx
          subst hx
          exact (dig_ne (good_mem gn (by simp))).1
      · rw [bodyV, show ([47] : List UInt8) ++ decT d = 47 :: decT d from rfl, cut_here fun x hx => (dig_ne (good_mem gn hx)).2.2]
        simp only
        rw [cond_true, fracV, parse_good gn (decT_ne n) (by omega), parse_good gd (decT_ne d) (by omega), decT_dv, decT_dv]
        exact make_form f.pos'
  obtain ⟨t, e, ht, hh, hbd⟩ := key
  rw [e, parseN]
  cases s with
  | true =>
    have hn0 : n ≠ 0 := fun h => by have := f.z h; cases this
    rw [show (cond true [45] [] : List UInt8) ++ t = 45 :: t from rfl, show preV 45 (45 :: t) = (t, true) from rfl]
    simp only
    rw [hbd]
    simp only [decide_true, Bool.and_true, cond_true]
    rw [f.pos'.neg, decide_eq_false hn0]; rfl
  | false =>
    rw [show (cond false [45] [] : List UInt8) ++ t = t from rfl]
    cases t with
    | nil => exact absurd rfl ht
    | cons b l =>
      have hb : b ≠ 45 := hh b rfl
      rw [preV, if_neg hb]
      simp only
      rw [Bool.and_false, cond_false, hbd]
end Go.Proofs.YtodfaihlddiokaaGreatDoor.D
namespace Go.Proofs.YtodfaihlddiokaaGreatDoor.K
open Go
end Go.Proofs.YtodfaihlddiokaaGreatDoor.K

/- Values: plain Lean; the program's and the reference's. -/
set_option linter.unusedVariables false
set_option linter.unusedSimpArgs false
namespace Go.Proofs.YtodfaihlddiokaaGreatDoor.D
open Go Go.Proofs.YtodfaihlddiokaaGreatDoor.K
open Go.Proofs.YtodfaihlddiokaaGreatDoor.P (nat val val_nat nat_zero nat_eq_nil nat_inj nat_one wS inC dv good dig dig_le decT decT_good decT_ne)
abbrev Vl := Int × (Bool × List UInt8 × List UInt8) × List UInt8 × Bool × Int
def eqV (v w : Vl) : Bool := (decide (v.1 = w.1)) && ((v.2.1.1 == w.2.1.1) && ((decide (v.2.1.2.1 = w.2.1.2.1)) && ((decide (v.2.1.2.2 = w.2.1.2.2)) && ((decide (v.2.2.1 = w.2.2.1)) && ((v.2.2.2.1 == w.2.2.2.1) && (decide (v.2.2.2.2 = w.2.2.2.2)))))))
theorem eqV_eq (v w : Vl) : eqV v w = decide (v = w) := by
  obtain ⟨a, ⟨b, c, d⟩, e, f, g⟩ := v
  obtain ⟨a', ⟨b', c', d'⟩, e', f', g'⟩ := w
  unfold eqV
  rw [Bool.eq_iff_iff]
  simp only [Bool.and_eq_true, decide_eq_true_eq, beq_iff_eq, Prod.mk.injEq]
  constructor
  · rintro ⟨h1, h2, h3, h4, h5, h6, h7⟩; exact ⟨h1, ⟨h2, h3, h4⟩, h5, h6, h7⟩
  · rintro ⟨h1, ⟨h2, h3, h4⟩, h5, h6, h7⟩; exact ⟨h1, h2, h3, h4, h5, h6, h7⟩
def blank : Vl := (0, (false, [], []), [], false, 0)
/-! ### which texts can be values -/
def pl1 (b : UInt8) : Bool := decide (32 ≤ b.toNat) && decide (b.toNat ≤ 126)
def plainV (s : List UInt8) : Bool := s.all pl1 && decide (s.length ≤ 200)
theorem all_drop {p : UInt8 → Bool} {s : List UInt8} {i : Nat} (h : i < s.length) : (s.drop i).all p = (p (s.getD i 0) && (s.drop (i + 1)).all p) := by rw [getD_drop h, List.all_cons]
theorem xPlain1 (s : List UInt8) (hs : s.length ≤ 9223372036854775807) : ∀ (m i : Nat), i + m = s.length → value_plain_1 s (s.map fun b => (b.toNat : Int)) ((s.map fun b => (b.toNat : Int)).length : Int) (i : Int) = some ((s.drop i).all pl1 && decide (s.length ≤ 200))
  | 0, i, h => by
    rw [value_plain_1_eq, cF (decide_eq_false (by rw [List.length_map]; omega)), List.drop_of_length_le (by omega)]
    exact congrArg some (decide_eq_decide.2 (by omega))
  | m + 1, i, h => by
    have hi : i < s.length := by omega
    have hg : (s.map fun b => (b.toNat : Int)).getD (i : Int).toNat 0 = ((s.getD i 0).toNat : Int) := by simp [List.getD, hi]
    have next : value_plain_2 s (s.map fun b => (b.toNat : Int)) ((s.map fun b => (b.toNat : Int)).length : Int) (i : Int) false = some ((s.drop (i + 1)).all pl1 && decide (s.length ≤ 200)) := by
      rw [value_plain_2_eq, cond_false, wS (by omega)]; exact xPlain1 s hs m (i + 1) (by omega)
    have stop : value_plain_2 s (s.map fun b => (b.toNat : Int)) ((s.map fun b => (b.toNat : Int)).length : Int) (i : Int) true = some false := by rw [value_plain_2_eq, cond_true]
    rw [value_plain_1_eq, cT (decide_eq_true (by rw [List.length_map]; omega)), cT (by rw [List.length_map]; exact ix hi), hg, all_drop hi]
    generalize s.getD i 0 = c
    by_cases h1 : c.toNat < 32
    · rw [cT (decide_eq_true (by omega)), stop, show pl1 c = false by unfold pl1; simp; omega]; rfl
    · rw [cF (decide_eq_false (by omega))]
      by_cases h2 : c.toNat > 126
      · rw [decide_eq_true (show (c.toNat : Int) > 126 by omega), stop, show pl1 c = false by unfold pl1; simp; omega]; rfl
      · rw [decide_eq_false (show ¬ (c.toNat : Int) > 126 by omega), next, show pl1 c = true by unfold pl1; simp; omega]; rfl
theorem xPlain (s : List UInt8) (hs : s.length ≤ 9223372036854775807) : value_plain s = some (plainV s) := (value_plain_eq s).trans (xPlain1 s hs s.length 0 (Nat.zero_add _))
theorem yPlain1 (s : List UInt8) (hs : s.length ≤ 200) : ∀ (m i : Nat), i + m = s.length → abacistref08_Plain_1 s (i : Int) = some ((s.drop i).all pl1)
  | 0, i, h => by
    rw [abacistref08_Plain_1_eq, cF (decide_eq_false (by omega)), List.drop_of_length_le (by omega)]; rfl
  | m + 1, i, h => by
    have hi : i < s.length := by omega
    have next : abacistref08_Plain_2 s (i : Int) false = some ((s.drop (i + 1)).all pl1) := by
      rw [abacistref08_Plain_2_eq, cond_false, wS (by omega)]; exact yPlain1 s hs m (i + 1) (by omega)
    have stop : abacistref08_Plain_2 s (i : Int) true = some false := by rw [abacistref08_Plain_2_eq, cond_true]
    rw [abacistref08_Plain_1_eq, cT (decide_eq_true (by omega)), cT (ix hi), cT (ix hi), Int.toNat_natCast, all_drop hi]
    generalize s.getD i 0 = c
    by_cases h1 : c.toNat < 32
    · rw [cT (decide_eq_true (by omega)), stop, show pl1 c = false by unfold pl1; simp; omega]; rfl
    · rw [cF (decide_eq_false (by omega))]
      by_cases h2 : c.toNat > 126
      · rw [decide_eq_true (show (c.toNat : Int) > 126 by omega), stop, show pl1 c = false by unfold pl1; simp; omega]; rfl
      · rw [decide_eq_false (show ¬ (c.toNat : Int) > 126 by omega), next, show pl1 c = true by unfold pl1; simp; omega]; rfl
theorem yPlain (s : List UInt8) : abacistref08_Plain s = some (plainV s) := by
  rw [abacistref08_Plain_eq]
  by_cases h : s.length ≤ 200
  · have := yPlain1 s h s.length 0 (Nat.zero_add _)
    rw [cF (decide_eq_false (by omega)), plainV, decide_eq_true h, Bool.and_true]; exact this
  · rw [cT (decide_eq_true (by omega)), plainV, decide_eq_false h, Bool.and_false]
/-! ### names of faults -/
def namesL : List (List UInt8) := [[], [35, 68, 73, 86, 47, 48, 33], [35, 86, 65, 76, 85, 69, 33], [35, 82, 69, 70, 33], [35, 78, 65, 77, 69, 63], [35, 78, 85, 77, 33], [35, 78, 47, 65], [35, 67, 73, 82, 67, 33]]
def isF (n : Int) : Bool := decide (1 ≤ n) && decide (n ≤ 7)
def nameV (n : Int) : List UInt8 := cond (isF n) (namesL.getD n.toNat []) []
theorem isF_cases {n : Int} (h : isF n = true) : n = 1 ∨ n = 2 ∨ n = 3 ∨ n = 4 ∨ n = 5 ∨ n = 6 ∨ n = 7 := by
  unfold isF at h
  simp at h
  omega
theorem isF_not {n : Int} (h : isF n = false) : n < 1 ∨ 7 < n := by
  unfold isF at h
  simp at h
  omega
theorem xName (n : Int) : value_Name n = some (nameV n) := by
  rw [value_Name_eq, value_Name_1_eq, nameV]
  by_cases h0 : n < 0
  · rw [cT (decide_eq_true h0), value_Name_2_eq, show isF n = false by unfold isF; simp; omega]; rfl
  · rw [cF (decide_eq_false h0), value_Name_2_eq]
    by_cases h8 : n ≥ 8
    · rw [cT (decide_eq_true h8), show isF n = false by unfold isF; simp; omega]; rfl
    · rw [cF (decide_eq_false h8), cT (by simp; omega)]
      by_cases hz : n = 0
      · subst hz; rfl
      · rw [show isF n = true by unfold isF; simp; omega]; rfl
def namedF (s : List UInt8) : Nat → Nat → Int × Bool
  | 0, _ => (0, false)
  | m + 1, i => if 0 < i ∧ namesL.getD i [] = s then ((i : Int), true) else namedF s m (i + 1)
theorem xNamed1 (s : List UInt8) : ∀ (m i : Nat), i + m = 8 → value_Named_2 s [] [35, 68, 73, 86, 47, 48, 33] [35, 86, 65, 76, 85, 69, 33] [35, 82, 69, 70, 33] [35, 78, 65, 77, 69, 63] [35, 78, 85, 77, 33] [35, 78, 47, 65] [35, 67, 73, 82, 67, 33] (i : Int) = some (namedF s m i)
  | 0, i, h => by rw [value_Named_2_eq, cF (decide_eq_false (by omega))]; rfl
  | m + 1, i, h => by
    have next : value_Named_3 s (i : Int) [] [35, 68, 73, 86, 47, 48, 33] [35, 86, 65, 76, 85, 69, 33] [35, 82, 69, 70, 33] [35, 78, 65, 77, 69, 63] [35, 78, 85, 77, 33] [35, 78, 47, 65] [35, 67, 73, 82, 67, 33] (i : Int) false = some (namedF s m (i + 1)) := by
      rw [value_Named_3_eq, cond_false, wS (by omega), xNamed1 s m (i + 1) (by omega)]
    rw [value_Named_2_eq, cT (decide_eq_true (by omega)), cT (by simp; omega), Int.toNat_natCast, namedF]
    by_cases h0 : 0 < i
    · rw [cT (decide_eq_true (by omega))]
      by_cases hs : namesL.getD i [] = s
      · rw [if_pos ⟨h0, hs⟩, decide_eq_true (show (([[], [35, 68, 73, 86, 47, 48, 33], [35, 86, 65, 76, 85, 69, 33], [35, 82, 69, 70, 33], [35, 78, 65, 77, 69, 63], [35, 78, 85, 77, 33], [35, 78, 47, 65], [35, 67, 73, 82, 67, 33]] : List (List UInt8)).getD i []) = s from hs), value_Named_3_eq, cond_true]
      · rw [if_neg (fun h => hs h.2), decide_eq_false (show ¬ (([[], [35, 68, 73, 86, 47, 48, 33], [35, 86, 65, 76, 85, 69, 33], [35, 82, 69, 70, 33], [35, 78, 65, 77, 69, 63], [35, 78, 85, 77, 33], [35, 78, 47, 65], [35, 67, 73, 82, 67, 33]] : List (List UInt8)).getD i []) = s from hs), next]
    · rw [cF (decide_eq_false (by omega)), if_neg (fun h => h0 h.1), next]
def namedV (s : List UInt8) : Int × Bool := namedF s 7 1
theorem xNamed (s : List UInt8) : value_Named s = some (namedV s) := by
  rw [value_Named_eq, value_Named_1_eq]
  exact xNamed1 s 8 0 rfl
theorem namedF_spec (s : List UInt8) : ∀ (m i : Nat), 1 ≤ i → i + m = 8 → (namedF s m i).2 = true → isF (namedF s m i).1 = true ∧ nameV (namedF s m i).1 = s
  | 0, i, _, _, h => by cases h
  | m + 1, i, h1, h8, h => by
    unfold namedF at h ⊢
    by_cases hs : 0 < i ∧ namesL.getD i [] = s
    · rw [if_pos hs]
      have hf : isF (i : Int) = true := by unfold isF; simp; omega
      exact ⟨hf, by unfold nameV; rw [hf, cond_true, Int.toNat_natCast]; exact hs.2⟩
    · rw [if_neg hs] at h ⊢
      exact namedF_spec s m (i + 1) (by omega) (by omega) h
theorem named_hash {s : List UInt8} (h : (namedV s).2 = true) : s.head? = some 35 := by
  obtain ⟨h1, h2⟩ := namedF_spec s 7 1 (Nat.le_refl _) rfl h
  rw [← h2]
  rcases isF_cases h1 with h | h | h | h | h | h | h <;> rw [h] <;> rfl
/-! ### values of their kinds -/
def vNum (r : Rt) : Vl := (1, well r, [], false, 0)
def vFault (n : Int) : Vl := (4, (false, [], []), [], false, cond (isF n) n 2)
def vText (s : List UInt8) : Vl := cond (plainV s) (2, (false, [], []), s, false, 0) (vFault 2)
def vTruth (b : Bool) : Vl := (3, (false, [], []), [], b, 0)
def vOf (r : Rt) (e : Int) : Vl := cond (decide (e = 0)) (vNum r) (cond (decide (e = 5)) (vFault 1) (vFault 5))
theorem xvNum (r : Rt) : value_Num r = some (vNum r) := by
  rw [value_Num_eq, xRight, Option.bind_some, xROf 0 (by omega) (by omega), Option.bind_some, vNum, well, show ofI 0 = (false, [], [1]) by unfold ofI; rw [Int.natAbs_zero, nat_zero]; rfl]
  simp only [value_Num_1_eq]
  cases right r <;> rfl
theorem yvNum (r : Rt) : abacistref08_Num r = some (vNum r) := by rw [abacistref08_Num_eq, yWell]; rfl
theorem nameV_nil (n : Int) : decide (nameV n = []) = !isF n := by
  unfold nameV
  cases hf : isF n with
  | true => rcases isF_cases hf with h | h | h | h | h | h | h <;> subst h <;> rfl
  | false => rfl
theorem xvFault (n : Int) : value_Fault n = some (vFault n) := by
  rw [value_Fault_eq, xName, Option.bind_some, nameV_nil, vFault]
  simp only [value_Fault_1_eq]
  cases isF n <;> rfl
theorem yvFault (n : Int) : abacistref08_Fault n = some (vFault n) := by
  rw [abacistref08_Fault_eq, vFault]
  simp only [abacistref08_Fault_1_eq, abacistref08_Fault_2_eq]
  cases hf : isF n with
  | true => rcases isF_cases hf with h | h | h | h | h | h | h <;> subst h <;> rfl
  | false =>
    rcases isF_not hf with h | h
    · rw [cT (decide_eq_true h)]; rfl
    · rw [cF (decide_eq_false (by omega)), decide_eq_true (show n > 7 by omega)]; rfl
theorem xvText (s : List UInt8) (hs : s.length ≤ 9223372036854775807) : value_Text s = some (vText s) := by
  rw [value_Text_eq, xPlain s hs, Option.bind_some, xvFault, Option.bind_some, vText]
  cases plainV s <;> rfl
theorem yvText (s : List UInt8) : abacistref08_Text s = some (vText s) := by
  rw [abacistref08_Text_eq, yPlain s, Option.bind_some, yvFault, Option.bind_some, vText]
  cases plainV s <;> rfl
theorem xvTruth (b : Bool) : value_Truth b = some (vTruth b) := value_Truth_eq b
theorem yvTruth (b : Bool) : abacistref08_Truth b = some (vTruth b) := abacistref08_Truth_eq b
/-! ### which values can be -/
def vRight (v : Vl) : Bool :=
  cond (decide (v.1 = 0)) (decide (v = blank)) (cond (decide (v.1 = 1)) (decide (v = vNum v.2.1)) (cond (decide (v.1 = 2)) (decide (v = vText v.2.2.1)) (cond (decide (v.1 = 3)) (decide (v = vTruth v.2.2.2.1)) (cond (decide (v.1 = 4)) (decide (v = vFault v.2.2.2.2)) false))))
theorem xvRight (v : Vl) (hs : v.2.2.1.length ≤ 9223372036854775807) : value_Right v = some (vRight v) := by
  rw [value_Right_eq, xvNum, xvText _ hs, xvTruth, xvFault, vRight]
  simp only [Option.bind_some]
  show cond _ (some (eqV v blank)) (cond _ (some (eqV v (vNum v.2.1))) (cond _ (some (eqV v (vText v.2.2.1))) (cond _ (some (eqV v (vTruth v.2.2.2.1))) (cond _ (some (eqV v (vFault v.2.2.2.2))) _)))) = _
  simp only [eqV_eq]
  cases decide (v.1 = 0) <;> cases decide (v.1 = 1) <;> cases decide (v.1 = 2) <;> cases decide (v.1 = 3) <;> cases decide (v.1 = 4) <;> rfl
theorem well_iff (r : Rt) : well r = r ↔ right r = true := by
  constructor
  · intro h; rw [← h]; exact right_well r
  · exact well_of_right
theorem yvRight (v : Vl) : abacistref08_Right v = some (vRight v) := by
  rw [abacistref08_Right_eq, yRight, yPlain, Option.bind_some, Option.bind_some, vRight]
  show cond _ (some (eqV v blank)) (cond _ (cond (right v.2.1) (some (eqV v (1, v.2.1, [], false, 0))) _) (cond _ (cond (plainV v.2.2.1) (some (eqV v (2, (false, [], []), v.2.2.1, false, 0))) _) (cond _ (some (eqV v (3, (false, [], []), [], v.2.2.2.1, 0))) (cond _ (cond _ (cond _ (some (eqV v (4, (false, [], []), [], false, v.2.2.2.2))) _) _) _)))) = _
  simp only [eqV_eq]
  by_cases h0 : v.1 = 0
  · rw [cT (decide_eq_true h0), cT (decide_eq_true h0)]
  rw [cF (decide_eq_false h0), cF (decide_eq_false h0)]
  by_cases h1 : v.1 = 1
  · rw [cT (decide_eq_true h1), cT (decide_eq_true h1)]
    cases hr : right v.2.1 with
    | true => rw [cond_true, vNum, well_of_right hr]
    | false =>
      rw [cond_false, decide_eq_false]
      intro h
      have h' := congrArg (fun x : Vl => x.2.1) h
      simp only [vNum] at h'
      rw [(well_iff _).1 h'.symm] at hr; cases hr
  rw [cF (decide_eq_false h1), cF (decide_eq_false h1)]
  by_cases h2 : v.1 = 2
  · rw [cT (decide_eq_true h2), cT (decide_eq_true h2)]
    cases hr : plainV v.2.2.1 with
    | true => rw [cond_true, vText, hr, cond_true]
    | false =>
      rw [cond_false, decide_eq_false]
      intro h
      have h' := congrArg (fun x : Vl => x.1) h
      simp only [vText, hr, cond_false, vFault] at h'
      omega
  rw [cF (decide_eq_false h2), cF (decide_eq_false h2)]
  by_cases h3 : v.1 = 3
  · rw [cT (decide_eq_true h3), cT (decide_eq_true h3)]; rfl
  rw [cF (decide_eq_false h3), cF (decide_eq_false h3)]
  by_cases h4 : v.1 = 4
  · rw [cT (decide_eq_true h4), cT (decide_eq_true h4)]
    cases hr : isF v.2.2.2.2 with
    | true =>
      have hr' := isF_cases hr
      rw [cT (decide_eq_true (by omega)), cT (decide_eq_true (by omega)), vFault, hr, cond_true]
    | false =>
      have hne : decide (v = vFault v.2.2.2.2) = false := by
        refine decide_eq_false fun h => ?_
        have h' := congrArg (fun x : Vl => x.2.2.2.2) h
        simp only [vFault, hr, cond_false] at h'
        rw [h'] at hr; cases hr
      rw [hne]
      rcases isF_not hr with h | h
      · rw [cF (decide_eq_false (by omega))]
      · rw [cT (decide_eq_true (by omega)), cF (decide_eq_false (by omega))]
  rw [cF (decide_eq_false h4), cF (decide_eq_false h4)]
/-! ### how they are seen -/
def textR (r : Rt) : List UInt8 := textF (well r).1 (val (well r).2.1) (val (well r).2.2)
def tTRUE : List UInt8 := [84, 82, 85, 69]
def tFALSE : List UInt8 := [70, 65, 76, 83, 69]
def vShow (v : Vl) : List UInt8 := cond (!vRight v) [] (cond (decide (v.1 = 1)) (textR v.2.1) (cond (decide (v.1 = 3)) (cond v.2.2.2.1 tTRUE tFALSE) (cond (decide (v.1 = 4)) (nameV v.2.2.2.2) v.2.2.1)))
theorem right_kind {v : Vl} (h : vRight v = true) : v.1 = 0 ∨ v.1 = 1 ∨ v.1 = 2 ∨ v.1 = 3 ∨ v.1 = 4 := by
  by_cases h0 : v.1 = 0
  · exact .inl h0
  by_cases h1 : v.1 = 1
  · exact .inr (.inl h1)
  by_cases h2 : v.1 = 2
  · exact .inr (.inr (.inl h2))
  by_cases h3 : v.1 = 3
  · exact .inr (.inr (.inr (.inl h3)))
  by_cases h4 : v.1 = 4
  · exact .inr (.inr (.inr (.inr h4)))
  unfold vRight at h
  rw [decide_eq_false h0, decide_eq_false h1, decide_eq_false h2, decide_eq_false h3, decide_eq_false h4] at h
  cases h
theorem right0 {v : Vl} (h : vRight v = true) (hk : v.1 = 0) : v = blank := by
  unfold vRight at h
  rw [decide_eq_true hk] at h
  exact of_decide_eq_true h
theorem right1 {v : Vl} (h : vRight v = true) (hk : v.1 = 1) : v = vNum v.2.1 := by
  unfold vRight at h
  rw [decide_eq_false (show ¬ v.1 = 0 by omega), decide_eq_true hk] at h
  exact of_decide_eq_true h
theorem right2 {v : Vl} (h : vRight v = true) (hk : v.1 = 2) : v = vText v.2.2.1 := by
  unfold vRight at h
  rw [decide_eq_false (show ¬ v.1 = 0 by omega), decide_eq_false (show ¬ v.1 = 1 by omega), decide_eq_true hk] at h
  exact of_decide_eq_true h
theorem right3 {v : Vl} (h : vRight v = true) (hk : v.1 = 3) : v = vTruth v.2.2.2.1 := by
  unfold vRight at h
  rw [decide_eq_false (show ¬ v.1 = 0 by omega), decide_eq_false (show ¬ v.1 = 1 by omega), decide_eq_false (show ¬ v.1 = 2 by omega), decide_eq_true hk] at h
  exact of_decide_eq_true h
theorem right4 {v : Vl} (h : vRight v = true) (hk : v.1 = 4) : v = vFault v.2.2.2.2 := by
  unfold vRight at h
  rw [decide_eq_false (show ¬ v.1 = 0 by omega), decide_eq_false (show ¬ v.1 = 1 by omega), decide_eq_false (show ¬ v.1 = 2 by omega), decide_eq_false (show ¬ v.1 = 3 by omega), decide_eq_true hk] at h
  exact of_decide_eq_true h
end Go.Proofs.YtodfaihlddiokaaGreatDoor.D

/- Texts of cells: plain Lean; the program's and the reference's; the two laws of values. -/
set_option linter.unusedVariables false
set_option linter.unusedSimpArgs false
namespace Go.Proofs.YtodfaihlddiokaaGreatDoor.D
open Go Go.Proofs.YtodfaihlddiokaaGreatDoor.K
open Go.Proofs.YtodfaihlddiokaaGreatDoor.P (nat val val_nat nat_zero nat_eq_nil nat_inj nat_one wS inC dv good dig dig_le decT decT_good decT_ne)
def litV (s : List UInt8) : Vl × Int :=
  cond (decide (s.length > 300)) (blank, 9) (cond (decide (s = [])) (blank, 0) (cond (decide (s = tTRUE) || decide (s = tFALSE)) (vTruth (decide (s = tTRUE)), 0)
    (cond (namedV s).2 (vFault (namedV s).1, 0) (cond (decide ((parseN s).2 = 0)) (vNum (parseN s).1, 0) (cond (plainV (preV 39 s).1) (vText (preV 39 s).1, 0) (blank, 10))))))
theorem xvLit (s : List UInt8) : value_Literal s = some (litV s) := by
  rw [value_Literal_eq, litV]
  by_cases hl : s.length > 300
  · rw [cT (decide_eq_true (by omega)), decide_eq_true hl]; rfl
  rw [cF (decide_eq_false (by omega)), cF (decide_eq_false hl)]
  by_cases h0 : s = []
  · rw [cT (decide_eq_true h0), cT (decide_eq_true h0)]; rfl
  rw [cF (decide_eq_false h0), cF (decide_eq_false h0)]
  have hp := pre_len 39 s
  have tail : value_Literal_1 s false blank = some (cond (namedV s).2 (vFault (namedV s).1, 0) (cond (decide ((parseN s).2 = 0)) (vNum (parseN s).1, 0) (cond (plainV (preV 39 s).1) (vText (preV 39 s).1, 0) (blank, 10)))) := by
    rw [value_Literal_1_eq, cond_false, xNamed, Option.bind_some, xvFault, Option.bind_some, xParseN s (by omega), Option.bind_some, xvNum, Option.bind_some, xPre, Option.bind_some, xPlain _ (by omega), Option.bind_some, xvText _ (by omega), Option.bind_some]
    cases (namedV s).2 <;> cases decide ((parseN s).2 = 0) <;> cases plainV (preV 39 s).1 <;> rfl
  have head : ∀ b, value_Literal_1 s true b = some (vTruth (decide (s = tTRUE)), 0) := by
    intro b
    rw [value_Literal_1_eq, cond_true, xvTruth]; rfl
  show cond (decide (s = tTRUE)) (value_Literal_1 s true blank) (value_Literal_1 s (decide (s = tFALSE)) blank) = _
  by_cases h1 : s = tTRUE
  · rw [cT (decide_eq_true h1), head, decide_eq_true h1]; rfl
  · rw [cF (decide_eq_false h1), decide_eq_false h1, Bool.false_or]
    by_cases h2 : s = tFALSE
    · rw [decide_eq_true h2, head, decide_eq_false h1]; rfl
    · rw [decide_eq_false h2, cond_false]
      exact tail
theorem show_len (v : Vl) : (vShow v).length ≤ 200 := by
  unfold vShow
  cases hr : vRight v with
  | false => simp
  | true =>
    rcases right_kind hr with h | h | h | h | h
    · rw [right0 hr h]; simp [blank]
    · rw [h]
      obtain ⟨s, n, d, e, f⟩ := well_form v.2.1
      have := text_len f
      simp only [Bool.not_true, cond_false, decide_true, cond_true, textR, e, val_nat]
      omega
    · have hv := right2 hr h
      rw [h]
      simp only [Bool.not_true, cond_false]
      cases hp : plainV v.2.2.1 with
      | true =>
        unfold plainV at hp
        simp only [Bool.and_eq_true, decide_eq_true_eq] at hp
        exact hp.2
      | false =>
        rw [vText, hp, cond_false] at hv
        have := congrArg (fun x : Vl => x.1) hv
        simp only [vFault] at this
        omega
    · rw [h]
      cases v.2.2.2.1 <;> simp [tTRUE, tFALSE]
    · rw [h]
      simp only [Bool.not_true, cond_false]
      unfold nameV
      cases hf : isF v.2.2.2.2 with
      | false => simp
      | true => rcases isF_cases hf with h | h | h | h | h | h | h <;> rw [h] <;> simp [namesL]
def contV (v : Vl) : List UInt8 × Int :=
  cond (!vRight v) ([], 3) (cond (!decide (v.1 = 2)) (vShow v, 0) (cond (!(decide ((litV (vShow v)).2 = 0) && decide ((litV (vShow v)).1 = v)) || (preV 61 (vShow v)).2) (39 :: vShow v, 0) (vShow v, 0)))
/-! ### what is read can be -/
theorem right_num (r : Rt) : vRight (vNum r) = true := by
  unfold vRight vNum
  rw [well_well]
  simp
theorem right_fault {n : Int} (h : isF n = true) : vRight (vFault n) = true := by
  unfold vRight vFault
  rw [h]
  simp [h]
theorem right_truth (b : Bool) : vRight (vTruth b) = true := by
  unfold vRight vTruth
  simp
theorem right_text {s : List UInt8} (h : plainV s = true) : vRight (vText s) = true := by
  unfold vRight vText
  rw [h]
  simp [h]
theorem lit_right (s : List UInt8) : (litV s).2 = 0 → vRight (litV s).1 = true := by
  unfold litV
  cases decide (s.length > 300) with
  | true => intro h; cases h
  | false =>
    rw [cond_false]
    cases decide (s = []) with
    | true => intro _; rfl
    | false =>
      rw [cond_false]
      cases decide (s = tTRUE) || decide (s = tFALSE) with
      | true => intro _; exact right_truth _
      | false =>
        rw [cond_false]
        cases hn : (namedV s).2 with
        | true => intro _; exact right_fault (namedF_spec s 7 1 (Nat.le_refl _) rfl hn).1
        | false =>
          rw [cond_false]
          cases hp : decide ((parseN s).2 = 0) with
          | true => intro _; exact right_num _
          | false =>
            rw [cond_false]
            cases hq : plainV (preV 39 s).1 with
            | true => intro _; exact right_text hq
            | false => intro h; cases h
theorem not_named {s : List UInt8} {b : UInt8} (h : s.head? = some b) (hb : b ≠ 35) : (namedV s).2 = false := by
  cases hn : (namedV s).2 with
  | false => rfl
  | true => rw [named_hash hn] at h; cases h; exact absurd rfl hb
theorem head_ne {s t : List UInt8} {b c : UInt8} (h : s.head? = some b) (k : t.head? = some c) (hb : b ≠ c) : decide (s = t) = false := decide_eq_false fun e => by rw [e, k] at h; cases h; exact hb rfl
theorem head_nil {s : List UInt8} {b : UInt8} (h : s.head? = some b) : decide (s = []) = false := decide_eq_false fun e => by rw [e] at h; cases h
theorem text_head {s : Bool} {n d : Nat} (f : Fm s n d) : ∃ b, (textF s n d).head? = some b ∧ (b = 45 ∨ (48 ≤ b.toNat ∧ b.toNat ≤ 57)) := by
  have hdig : ∀ t : List UInt8, good t = true → t ≠ [] → ∃ b, t.head? = some b ∧ (b = 45 ∨ (48 ≤ b.toNat ∧ b.toNat ≤ 57)) := by
    intro t hg h0
    cases t with
    | nil => exact absurd rfl h0
    | cons b t => exact ⟨b, rfl, .inr (dig_le (good_mem hg (by simp)))⟩
  have happ : ∀ t u : List UInt8, t ≠ [] → (t ++ u).head? = t.head? := by
    intro t u h
    cases t with
    | nil => exact absurd rfl h
    | cons b t => rfl
  unfold textF
  cases s with
  | true => exact ⟨45, rfl, .inl rfl⟩
  | false =>
    rw [show (cond false [45] [] : List UInt8) = [] from rfl, List.nil_append]
    cases (endsN d).2 && decide ((endsN d).1 ≤ 20) with
    | false =>
      rw [cond_false, List.append_assoc, happ _ _ (decT_ne n)]
      exact hdig _ (decT_good n) (decT_ne n)
    | true =>
      rw [cond_true]
      unfold ptN
      split
      · exact hdig _ (decT_good _) (decT_ne _)
      · generalize hp : List.replicate ((endsN d).1 + 1 - (decT (n * 10 ^ (endsN d).1 / d)).length) 48 ++ decT (n * 10 ^ (endsN d).1 / d) = p
        have hgp : good p = true := by rw [← hp, good_append, good_zeros, decT_good]; rfl
        have hl : (endsN d).1 + 1 ≤ p.length := by rw [← hp]; simp; omega
        have n1 : p.take (p.length - (endsN d).1) ≠ [] := fun e => by have := congrArg List.length e; simp at this; omega
        rw [List.append_assoc, happ _ _ n1]
        exact hdig _ (good_take hgp _) n1
theorem lit_num (r : Rt) : litV (textR r) = (vNum r, 0) := by
  obtain ⟨s, n, d, e, f⟩ := well_form r
  have hl := text_len f
  have ht : textR r = textF s n d := by rw [textR, e]; simp only [val_nat]
  obtain ⟨b, hb, hb2⟩ := text_head f
  have n1 : b ≠ 84 := by rintro rfl; simp at hb2
  have n2 : b ≠ 70 := by rintro rfl; simp at hb2
  have n3 : b ≠ 35 := by rintro rfl; simp at hb2
  rw [ht, litV, decide_eq_false (by omega), head_nil hb, head_ne hb (show tTRUE.head? = some 84 from rfl) n1, head_ne hb (show tFALSE.head? = some 70 from rfl) n2, not_named hb n3, parse_text f]
  simp only [cond_false, Bool.or_false, decide_true, cond_true, vNum]
  rw [← e, well_well]
theorem lit_truth (b : Bool) : litV (cond b tTRUE tFALSE) = (vTruth b, 0) := by cases b <;> rfl
theorem named_name {n : Int} (h : isF n = true) : namedV (nameV n) = (n, true) := by
  rcases isF_cases h with h | h | h | h | h | h | h <;> subst h <;> decide
theorem lit_fault {n : Int} (h : isF n = true) : litV (nameV n) = (vFault n, 0) := by
  have hn := named_name h
  have hh : (nameV n).head? = some 35 := named_hash (by rw [hn])
  have hl : (nameV n).length ≤ 10 := by rcases isF_cases h with h | h | h | h | h | h | h <;> subst h <;> decide
  rw [litV, decide_eq_false (by omega), head_nil hh, head_ne hh (show tTRUE.head? = some 84 from rfl) (by decide), head_ne hh (show tFALSE.head? = some 70 from rfl) (by decide), hn]
  rfl
theorem not_parse (s : List UInt8) : decide ((parseN (39 :: s)).2 = 0) = false := by
  have hd : dig 39 = false := rfl
  have hg : ∀ t, good (39 :: t) = false := fun t => by unfold good; rw [List.all_cons, hd]; rfl
  have hb : (bodyV (39 :: s)).2 = 10 := by
    unfold bodyV
    cases hc : (cutV 47 (39 :: s)).2.2 with
    | true =>
      rw [cond_true]
      have : ∃ t, (cutV 47 (39 :: s)).1 = 39 :: t := by
        unfold cutV at hc ⊢
        simp only [pos] at hc ⊢
        rw [if_neg (by decide)] at hc ⊢
        cases hp : pos 47 s with
        | none => rw [hp] at hc; cases hc
        | some k => exact ⟨s.take k, by simp⟩
      obtain ⟨t, ht⟩ := this
      rw [fracV, ht, show parseV (39 :: t) = ([], 3) by rw [parseV, if_pos (.inr (hg t))]]
      rfl
    | false =>
      rw [cond_false, decV]
      have : ∃ t, (cutV 46 (39 :: s)).1 = 39 :: t := by
        unfold cutV
        simp only [pos]
        rw [if_neg (by decide)]
        cases hp : pos 46 s with
        | none => exact ⟨s, rfl⟩
        | some k => exact ⟨s.take k, by simp⟩
      obtain ⟨t, ht⟩ := this
      rw [ht, show dg (39 :: t) = false by unfold dg; rw [hg]; rfl]
      rfl
  have hp : preV 45 (39 :: s) = (39 :: s, false) := by rw [preV, if_neg (by decide)]
  rw [parseN, hp]
  simp only
  rw [Bool.and_false, cond_false, hb]; rfl
theorem lit_quote {s : List UInt8} (h : plainV s = true) : litV (39 :: s) = (vText s, 0) := by
  have hl : s.length ≤ 200 := by
    unfold plainV at h
    simp only [Bool.and_eq_true, decide_eq_true_eq] at h
    exact h.2
  have hh : (39 :: s).head? = some 39 := rfl
  rw [litV, decide_eq_false (by simp; omega), head_nil hh, head_ne hh (show tTRUE.head? = some 84 from rfl) (by decide), head_ne hh (show tFALSE.head? = some 70 from rfl) (by decide), not_named hh (by decide), not_parse, show preV 39 (39 :: s) = (s, true) from rfl]
  simp only [h, cond_false, cond_true, Bool.or_false]
theorem cont_lit {v : Vl} (hr : vRight v = true) : litV (contV v).1 = (v, 0) := by
  have hs : vShow v = cond (decide (v.1 = 1)) (textR v.2.1) (cond (decide (v.1 = 3)) (cond v.2.2.2.1 tTRUE tFALSE) (cond (decide (v.1 = 4)) (nameV v.2.2.2.2) v.2.2.1)) := by unfold vShow; rw [hr]; rfl
  rw [contV, hr, Bool.not_true, cond_false]
  rcases right_kind hr with h | h | h | h | h
  · rw [h]
    simp only [show (!decide ((0 : Int) = 2)) = true from rfl, cond_true]
    rw [hs, h, right0 hr h]; rfl
  · rw [h]
    simp only [show (!decide ((1 : Int) = 2)) = true from rfl, cond_true]
    rw [hs, h]
    simp only [decide_true, cond_true]
    rw [lit_num, ← right1 hr h]
  · rw [h]
    have hv := right2 hr h
    have hp : plainV v.2.2.1 = true := by
      cases hp : plainV v.2.2.1 with
      | true => rfl
      | false =>
        rw [vText, hp, cond_false] at hv
        have := congrArg (fun x : Vl => x.1) hv
        simp only [vFault] at this
        omega
    have hs2 : vShow v = v.2.2.1 := by rw [hs, h]; rfl
    simp only [decide_true, Bool.not_true, cond_false]
    cases hl : decide ((litV (vShow v)).2 = 0) && decide ((litV (vShow v)).1 = v) with
    | true =>
      simp only [Bool.and_eq_true, decide_eq_true_eq] at hl
      rw [Bool.not_true, Bool.false_or]
      cases (preV 61 (vShow v)).2 with
      | false =>
        rw [cond_false]
        exact Prod.ext hl.2 hl.1
      | true =>
        rw [cond_true]
        simp only
        rw [hs2, lit_quote hp, ← hv]
    | false =>
      rw [Bool.not_false, Bool.true_or, cond_true]
      simp only
      rw [hs2, lit_quote hp, ← hv]
  · rw [h]
    simp only [show (!decide ((3 : Int) = 2)) = true from rfl, cond_true]
    rw [hs, h]
    simp only [show decide ((3 : Int) = 1) = false from rfl, cond_false, decide_true, cond_true]
    rw [lit_truth, ← right3 hr h]
  · rw [h]
    have hv := right4 hr h
    have hf : isF v.2.2.2.2 = true := by
      cases hf : isF v.2.2.2.2 with
      | true => rfl
      | false =>
        have := congrArg (fun x : Vl => x.2.2.2.2) hv
        simp only [vFault, hf, cond_false] at this
        rw [this] at hf; cases hf
    simp only [show (!decide ((4 : Int) = 2)) = true from rfl, cond_true]
    rw [hs, h]
    simp only [show decide ((4 : Int) = 1) = false from rfl, show decide ((4 : Int) = 3) = false from rfl, cond_false, decide_true, cond_true]
    rw [lit_fault hf, ← hv]
/-! ### the laws -/
theorem eqV_self (v : Vl) : eqV v v = true := by rw [eqV_eq]; exact decide_eq_true rfl
end Go.Proofs.YtodfaihlddiokaaGreatDoor.D
namespace Go.Proofs.YtodfaihlddiokaaGreatDoor.K
open Go
end Go.Proofs.YtodfaihlddiokaaGreatDoor.K

/- Values as others: plain Lean; the program's and the reference's; two of the laws. -/
set_option linter.unusedVariables false
set_option linter.unusedSimpArgs false
namespace Go.Proofs.YtodfaihlddiokaaGreatDoor.D
open Go Go.Proofs.YtodfaihlddiokaaGreatDoor.K
open Go.Proofs.YtodfaihlddiokaaGreatDoor.P (nat val val_nat nat_zero nat_eq_nil nat_inj nat_one wS inC dv good dig dig_le decT decT_good decT_ne)
def cFault (v : Vl) : Int := cond (vRight v) v.2.2.2.2 2
theorem right_len {v : Vl} (h : vRight v = true) : v.2.2.1.length ≤ 200 := by
  have h2 := show_len v
  rcases right_kind h with k | k | k | k | k
  · rw [right0 h k]; simp [blank]
  · rw [right1 h k]; simp [vNum]
  · have : vShow v = v.2.2.1 := by unfold vShow; rw [h, k]; rfl
    rw [← this]; omega
  · rw [right3 h k]; simp [vTruth]
  · rw [right4 h k]; simp [vFault]
theorem xcFault (v : Vl) (hs : v.2.2.1.length ≤ 9223372036854775807) : coerce_cell_fault v = some (cFault v) := by
  rw [coerce_cell_fault_eq, xvRight v hs, Option.bind_some, cFault]
  cases vRight v <;> rfl
theorem ycFault (v : Vl) : abacistref09_fault v = some (cFault v) := by
  rw [abacistref09_fault_eq, yvRight v, Option.bind_some, cFault]
  cases vRight v <;> rfl
theorem fault_right {v : Vl} (h : cFault v = 0) : vRight v = true := by
  unfold cFault at h
  cases hr : vRight v with
  | true => rfl
  | false => rw [hr] at h; cases h
theorem fault_kind {v : Vl} (h : cFault v = 0) : v = blank ∨ v = vNum v.2.1 ∨ (v = vText v.2.2.1 ∧ plainV v.2.2.1 = true ∧ v.1 = 2) ∨ v = vTruth v.2.2.2.1 := by
  have hr := fault_right h
  rcases right_kind hr with k | k | k | k | k
  · exact .inl (right0 hr k)
  · exact .inr (.inl (right1 hr k))
  · refine .inr (.inr (.inl ⟨right2 hr k, ?_, k⟩))
    cases hp : plainV v.2.2.1 with
    | true => rfl
    | false =>
      have hv := right2 hr k
      rw [vText, hp, cond_false] at hv
      have := congrArg (fun x : Vl => x.1) hv
      simp only [vFault] at this
      omega
  · exact .inr (.inr (.inr (right3 hr k)))
  · exfalso
    have hv := right4 hr k
    unfold cFault at h
    rw [hr, cond_true] at h
    have := congrArg (fun x : Vl => x.2.2.2.2) hv
    simp only [vFault] at this
    rw [h, show isF 0 = false from rfl, cond_false] at this
    cases this
def numV (v : Vl) : Rt × Int :=
  cond (!decide (cFault v = 0)) (z0, cFault v) (cond (decide (v.1 = 1)) (v.2.1, 0) (cond (decide (v.1 = 2)) (cond (!decide ((parseN v.2.2.1).2 = 0)) (z0, 2) ((parseN v.2.2.1).1, 0)) (ofI (cond v.2.2.2.1 1 0), 0)))
theorem xcNum (v : Vl) (hs : v.2.2.1.length ≤ 9223372036854775807) : coerce_Num v = some (numV v) := by
  rw [coerce_Num_eq, xcFault v hs, Option.bind_some, numV]
  by_cases h : cFault v = 0
  · have hl := right_len (fault_right h)
    simp only [h, decide_true, Bool.not_true, cond_false]
    rw [xParseN _ (by omega), Option.bind_some, coerce_bit_eq]
    have e : (cond v.2.2.2.1 (some 1) (some 0) : Option Int).bind (fun v3 => (rat_Of v3).bind fun v4 => some (v4, (0 : Int))) = some (ofI (cond v.2.2.2.1 1 0), 0) := by
      cases v.2.2.2.1
      · show (rat_Of 0).bind _ = _
        rw [xROf 0 (by omega) (by omega)]; rfl
      · show (rat_Of 1).bind _ = _
        rw [xROf 1 (by omega) (by omega)]; rfl
    rw [e]
    cases decide (v.1 = 1) <;> cases decide (v.1 = 2) <;> cases decide ((parseN v.2.2.1).2 = 0) <;> rfl
  · rw [cT (by rw [decide_eq_false h]; rfl), cT (by rw [decide_eq_false h]; rfl)]; rfl
def ctextV (v : Vl) : List UInt8 × Int := cond (!decide (cFault v = 0)) ([], cFault v) (vShow v, 0)
def truthV (v : Vl) : Bool × Int :=
  cond (!decide (cFault v = 0)) (false, cFault v) (cond (decide (v.1 = 1)) (!decide (signR (well v.2.1) = 0), 0) (cond (decide (v.1 = 2)) (cond (decide (v.2.2.1 = tTRUE) || decide (v.2.2.1 = tFALSE)) (decide (v.2.2.1 = tTRUE), 0) (false, 2)) (v.2.2.2.1, 0)))
theorem lit_truth_kind {s : List UInt8} (hl : s.length ≤ 300) : (decide ((litV s).2 = 0) && decide ((litV s).1.1 = 3)) = (decide (s = tTRUE) || decide (s = tFALSE)) := by
  unfold litV
  rw [decide_eq_false (by omega : ¬ s.length > 300), cond_false]
  by_cases h0 : s = []
  · subst h0; rfl
  · rw [decide_eq_false h0, cond_false]
    cases decide (s = tTRUE) || decide (s = tFALSE) with
    | true => rfl
    | false =>
      rw [cond_false]
      cases (namedV s).2 with
      | true => rfl
      | false =>
        rw [cond_false]
        cases decide ((parseN s).2 = 0) with
        | true => rfl
        | false =>
          rw [cond_false]
          cases hp : plainV (preV 39 s).1 with
          | true => rw [cond_true, vText, hp]; rfl
          | false => rfl
theorem xcTruth (v : Vl) (hs : v.2.2.1.length ≤ 9223372036854775807) : coerce_Truth v = some (truthV v) := by
  rw [coerce_Truth_eq, xcFault v hs, Option.bind_some, truthV]
  by_cases h : cFault v = 0
  · have hl := right_len (fault_right h)
    have hk := lit_truth_kind (s := v.2.2.1) (by omega)
    simp only [h, decide_true, Bool.not_true, cond_false]
    rw [xSign, Option.bind_some, xvLit, Option.bind_some, ← hk]
    simp only [coerce_Truth_1_eq]
    cases decide (v.1 = 1) <;> cases decide (v.1 = 2) <;> cases decide ((litV v.2.2.1).2 = 0) <;> cases decide ((litV v.2.2.1).1.1 = 3) <;> rfl
  · rw [cT (by rw [decide_eq_false h]; rfl), cT (by rw [decide_eq_false h]; rfl)]
/-! ### a number, as a text, is that number again -/
theorem plain_dig {c : UInt8} (h : dig c = true) : pl1 c = true := by
  have := dig_le h
  unfold pl1
  simp; omega
theorem plain_good {s : List UInt8} (h : good s = true) : s.all pl1 = true := List.all_eq_true.2 fun x hx => plain_dig (good_mem h hx)
theorem plain_textF {s : Bool} {n d : Nat} (f : Fm s n d) : plainV (textF s n d) = true := by
  have hl := text_len f
  unfold plainV
  rw [decide_eq_true (show (textF s n d).length ≤ 200 by omega), Bool.and_true]
  unfold textF
  rw [List.all_append]
  have h1 : (cond s [45] [] : List UInt8).all pl1 = true := by cases s <;> rfl
  rw [h1, Bool.true_and]
  cases (endsN d).2 && decide ((endsN d).1 ≤ 20) with
  | false =>
    rw [cond_false, List.all_append, List.all_append, plain_good (decT_good n), plain_good (decT_good d)]; rfl
  | true =>
    rw [cond_true]
    unfold ptN
    split
    · exact plain_good (decT_good _)
    · generalize hp : List.replicate ((endsN d).1 + 1 - (decT (n * 10 ^ (endsN d).1 / d)).length) 48 ++ decT (n * 10 ^ (endsN d).1 / d) = p
      have hgp : good p = true := by rw [← hp, good_append, good_zeros, decT_good]; rfl
      rw [List.all_append, List.all_append, plain_good (good_take hgp _), plain_good (good_dropT hgp _)]; rfl
theorem num_text (r : Rt) : numV (vText (textR r)) = (well r, 0) := by
  obtain ⟨s, n, d, e, f⟩ := well_form r
  have ht : textR r = textF s n d := by rw [textR, e]; simp only [val_nat]
  have hp := plain_textF f
  have hr := right_text hp
  have hv : vText (textF s n d) = (2, (false, [], []), textF s n d, false, 0) := by rw [vText, hp]; rfl
  have hf : cFault (vText (textF s n d)) = 0 := by unfold cFault; rw [hr, hv]; rfl
  rw [ht, numV, hf, hv]
  simp only [decide_true, Bool.not_true, cond_false, show decide ((2 : Int) = 1) = false from rfl, cond_true]
  rw [parse_text f, e]; rfl
def eqR (a b : Rt) : Bool := (a.1 == b.1) && ((decide (a.2.1 = b.2.1)) && (decide (a.2.2 = b.2.2)))
theorem eqR_self (a : Rt) : eqR a a = true := by simp [eqR]
theorem known9 : abacistlaw09_known = some true := of_depth 400 (by kernel_rfl)
/-! ### order -/
def likeV (v : Vl) (k : Int) : Vl := cond (!decide (v.1 = 0)) v (cond (decide (k = 1)) (vNum (ofI 0)) (cond (decide (k = 2)) (vText []) (cond (decide (k = 3)) (vTruth false) v)))
theorem xLike (v : Vl) (k : Int) : coerce_like v k = some (likeV v k) := by
  rw [coerce_like_eq, xROf 0 (by omega) (by omega), Option.bind_some, xvNum, xvText _ (by simp), xvTruth, likeV]
  cases decide (v.1 = 0) <;> cases decide (k = 1) <;> cases decide (k = 2) <;> cases decide (k = 3) <;> rfl
theorem cmp_well (a b : Rt) : cmpR (well a) (well b) = cmpR a b := by unfold cmpR; rw [well_well, well_well]
theorem fault_num (r : Rt) : cFault (vNum r) = 0 := by unfold cFault; rw [right_num]; rfl
end Go.Proofs.YtodfaihlddiokaaGreatDoor.D
namespace Go.Proofs.YtodfaihlddiokaaGreatDoor.K
open Go
end Go.Proofs.YtodfaihlddiokaaGreatDoor.K

/- Values held against each other: plain Lean; the program's and the reference's. -/
set_option linter.unusedVariables false
set_option linter.unusedSimpArgs false
namespace Go.Proofs.YtodfaihlddiokaaGreatDoor.D
open Go Go.Proofs.YtodfaihlddiokaaGreatDoor.K
open Go.Proofs.YtodfaihlddiokaaGreatDoor.P (nat val val_nat nat_zero nat_eq_nil nat_inj nat_one wS inC dv good dig dig_le decT decT_good decT_ne)
/-! ### numbers and texts in order -/
theorem icmp_cases (x y : Int) : (x < y ∧ icmp x y = -1) ∨ (x = y ∧ icmp x y = 0) ∨ (y < x ∧ icmp x y = 1) := by
  unfold icmp
  by_cases h1 : x < y
  · exact .inl ⟨h1, if_pos h1⟩
  · rw [if_neg h1]
    by_cases h2 : x = y
    · exact .inr (.inl ⟨h2, if_pos h2⟩)
    · exact .inr (.inr ⟨by omega, if_neg h2⟩)
theorem icmp_neg (x y : Int) : icmp y x = - icmp x y := by
  rcases icmp_cases x y with ⟨h, e⟩ | ⟨h, e⟩ | ⟨h, e⟩ <;> rcases icmp_cases y x with ⟨h', e'⟩ | ⟨h', e'⟩ | ⟨h', e'⟩ <;> omega
theorem icmp_le {x y : Int} : icmp x y ≤ 0 ↔ x ≤ y := by
  rcases icmp_cases x y with ⟨h, e⟩ | ⟨h, e⟩ | ⟨h, e⟩ <;> omega
def bcmp : List UInt8 → List UInt8 → Int
  | [], [] => 0
  | [], _ :: _ => -1
  | _ :: _, [] => 1
  | a :: s, b :: t => cond (decide (a = b)) (bcmp s t) (icmp a.toNat b.toNat)
theorem bcmp_cons (a b : UInt8) (s t : List UInt8) : bcmp (a :: s) (b :: t) = cond (decide (a = b)) (bcmp s t) (icmp a.toNat b.toNat) := rfl
theorem u8_ne {a b : UInt8} (h : ¬ a = b) : a.toNat ≠ b.toNat := fun h' => h (UInt8.toNat_inj.1 h')
theorem bcmp_neg : ∀ s t : List UInt8, bcmp t s = - bcmp s t
  | [], [] => rfl
  | [], _ :: _ => rfl
  | _ :: _, [] => rfl
  | a :: s, b :: t => by
    unfold bcmp
    by_cases h : a = b
    · subst h; rw [decide_eq_true rfl, cond_true, cond_true]; exact bcmp_neg s t
    · rw [decide_eq_false h, decide_eq_false (fun h' => h h'.symm), cond_false, cond_false]; exact icmp_neg _ _
theorem bcmp_le : ∀ s t u : List UInt8, bcmp s t ≤ 0 → bcmp t u ≤ 0 → bcmp s u ≤ 0
  | [], _, [], _, _ => by decide
  | [], _, _ :: _, _, _ => by show (-1 : Int) ≤ 0; decide
  | _ :: _, [], _, h, _ => absurd h (by show ¬ (1 : Int) ≤ 0; decide)
  | _ :: _, _ :: _, [], _, h => absurd h (by show ¬ (1 : Int) ≤ 0; decide)
  | a :: s, b :: t, c :: u, h1, h2 => by
    unfold bcmp at h1 h2 ⊢
    by_cases ab : a = b
    · subst ab
      rw [decide_eq_true rfl, cond_true] at h1
      by_cases ac : a = c
      · subst ac
        rw [decide_eq_true rfl, cond_true] at h2 ⊢
        exact bcmp_le s t u h1 h2
      · rw [decide_eq_false ac, cond_false] at h2 ⊢; exact h2
    · rw [decide_eq_false ab, cond_false, icmp_le] at h1
      have := u8_ne ab
      by_cases bc : b = c
      · subst bc
        rw [decide_eq_false ab, cond_false, icmp_le]; exact h1
      · rw [decide_eq_false bc, cond_false, icmp_le] at h2
        have ac : ¬ a = c := fun h => by subst h; omega
        rw [decide_eq_false ac, cond_false, icmp_le]; omega
theorem bless : ∀ s t : List UInt8, Op.bytesLess s t = decide (bcmp s t < 0)
  | [], [] => rfl
  | [], _ :: _ => rfl
  | _ :: _, [] => rfl
  | a :: s, b :: t => by
    unfold Op.bytesLess bcmp
    by_cases h : a = b
    · subst h
      rw [decide_eq_true rfl, cond_true, bless s t]
      have : decide (a < a) = false := decide_eq_false (UInt8.lt_irrefl a)
      rw [this]; simp
    · rw [decide_eq_false h, cond_false]
      have hb : (a == b) = false := by simp [h]
      rw [hb, Bool.false_and, Bool.or_false]
      refine decide_eq_decide.2 ?_
      rw [UInt8.lt_iff_toNat_lt]
      have := u8_ne h
      rcases icmp_cases a.toNat b.toNat with ⟨h, e⟩ | ⟨h, e⟩ | ⟨h, e⟩ <;> omega
theorem bcmp_zero : ∀ s t : List UInt8, bcmp s t = 0 ↔ s = t
  | [], [] => by simp [bcmp]
  | [], _ :: _ => by simp [bcmp]
  | _ :: _, [] => by simp [bcmp]
  | a :: s, b :: t => by
    unfold bcmp
    by_cases h : a = b
    · subst h; rw [decide_eq_true rfl, cond_true, bcmp_zero s t]; simp
    · rw [decide_eq_false h, cond_false]
      have := u8_ne h
      rcases icmp_cases a.toNat b.toNat with ⟨h', e⟩ | ⟨h', e⟩ | ⟨h', e⟩ <;> simp [h] <;> omega
theorem bcmp_range : ∀ s t : List UInt8, bcmp s t = -1 ∨ bcmp s t = 0 ∨ bcmp s t = 1
  | [], [] => by simp [bcmp]
  | [], _ :: _ => by simp [bcmp]
  | _ :: _, [] => by simp [bcmp]
  | a :: s, b :: t => by
    unfold bcmp
    by_cases h : a = b
    · subst h; rw [decide_eq_true rfl, cond_true]; exact bcmp_range s t
    · rw [decide_eq_false h, cond_false]
      rcases icmp_cases a.toNat b.toNat with ⟨h', e⟩ | ⟨h', e⟩ | ⟨h', e⟩ <;> omega
theorem xcInt (a b : Int) : cmp_Compare_int a b = some (icmp a b) := by
  rw [cmp_Compare_int_eq, cmp_isNaN_int_eq, cmp_isNaN_int_eq, Option.bind_some, Option.bind_some]
  simp only [decide_true, Bool.not_true, cond_false]
  rcases icmp_cases a b with ⟨h, e⟩ | ⟨h, e⟩ | ⟨h, e⟩
  · rw [cT (decide_eq_true h), e]
  · rw [cF (decide_eq_false (by omega)), cF (decide_eq_false (by omega)), e]
  · rw [cF (decide_eq_false (by omega)), cT (decide_eq_true (by omega)), e]
theorem xcInt64 (a b : Int) : cmp_Compare_int64 a b = some (icmp a b) := by
  rw [cmp_Compare_int64_eq, cmp_isNaN_int64_eq, cmp_isNaN_int64_eq, Option.bind_some, Option.bind_some]
  simp only [decide_true, Bool.not_true, cond_false]
  rcases icmp_cases a b with ⟨h, e⟩ | ⟨h, e⟩ | ⟨h, e⟩
  · rw [cT (decide_eq_true h), e]
  · rw [cF (decide_eq_false (by omega)), cF (decide_eq_false (by omega)), e]
  · rw [cF (decide_eq_false (by omega)), cT (decide_eq_true (by omega)), e]
theorem xcStr (s t : List UInt8) : cmp_Compare_string s t = some (bcmp s t) := by
  rw [cmp_Compare_string_eq, cmp_isNaN_string_eq, cmp_isNaN_string_eq, Option.bind_some, Option.bind_some]
  simp only [decide_true, Bool.not_true, cond_false]
  rw [bless]
  have hz := bcmp_zero s t
  rcases bcmp_range s t with e | e | e
  · rw [cT (decide_eq_true (by omega)), e]
  · rw [cF (decide_eq_false (by omega)), cF (by rw [decide_eq_true (hz.1 e), Bool.or_true]; rfl), e]
  · have hne : ¬ s = t := fun h => by have := hz.2 h; omega
    rw [cF (decide_eq_false (by omega)), cT (by rw [decide_eq_false (show ¬ bcmp s t < 0 by omega), decide_eq_false hne]; rfl), e]
theorem xcOr (a b : Int) : cmp_Or_int [a, b] = some (cond (decide (a = 0)) b a) := by
  have e3 : cmp_Or_int_1 0 [a, b] 2 2 = some 0 := by rw [cmp_Or_int_1_eq]; rfl
  have e2 : cmp_Or_int_1 0 [a, b] 2 1 = some b := by
    rw [cmp_Or_int_1_eq]
    show cond (!decide (b = 0)) (some b) (cmp_Or_int_1 0 [a, b] 2 2) = _
    rw [e3]
    by_cases h : b = 0
    · rw [decide_eq_true h, h]; rfl
    · rw [decide_eq_false h]; rfl
  rw [cmp_Or_int_eq, cmp_Or_int_1_eq]
  show cond (!decide (a = 0)) (some a) (cmp_Or_int_1 0 [a, b] 2 1) = _
  rw [e2]
  cases decide (a = 0) <;> rfl
theorem ycOrder (a b : Int) : abacistref09_order a b = some (icmp a b) := by
  rw [abacistref09_order_eq]
  rcases icmp_cases a b with ⟨h, e⟩ | ⟨h, e⟩ | ⟨h, e⟩
  · rw [cT (decide_eq_true h), e]
  · rw [cF (decide_eq_false (by omega)), cF (decide_eq_false (by omega)), e]
  · rw [cF (decide_eq_false (by omega)), cT (decide_eq_true (by omega)), e]
theorem bcmp_nil_r (s : List UInt8) : bcmp s [] = icmp (s.length : Int) 0 := by
  cases s with
  | nil => rfl
  | cons a s => 
    show (1 : Int) = _
    rcases icmp_cases ((a :: s).length : Int) 0 with ⟨h, e⟩ | ⟨h, e⟩ | ⟨h, e⟩ <;> simp only [List.length_cons] at h e ⊢ <;> omega
theorem bcmp_nil_l (s : List UInt8) : bcmp [] s = icmp 0 (s.length : Int) := by
  rw [bcmp_neg, bcmp_nil_r, icmp_neg 0]; omega
theorem icmp_sub {x y k : Int} : icmp (x - k) (y - k) = icmp x y := by
  rcases icmp_cases x y with ⟨h, e⟩ | ⟨h, e⟩ | ⟨h, e⟩ <;> rcases icmp_cases (x - k) (y - k) with ⟨h', e'⟩ | ⟨h', e'⟩ | ⟨h', e'⟩ <;> omega
theorem ycBytes1 (s t : List UInt8) (hs : s.length ≤ 200) (ht : t.length ≤ 200) : ∀ (m i : Nat), i + m = s.length → i ≤ t.length → abacistref09_bytes_1 s t (i : Int) = some (bcmp (s.drop i) (t.drop i)) := by
  have stop : ∀ i : Nat, i ≤ s.length → i ≤ t.length → (i = s.length ∨ i = t.length) → abacistref09_bytes_2 s t (i : Int) false = some (bcmp (s.drop i) (t.drop i)) := by
    intro i h1 h2 h
    rw [abacistref09_bytes_2_eq, cond_false, ycOrder, Option.bind_some]
    rcases h with h | h
    · rw [show s.drop i = [] from List.drop_of_length_le (by omega), bcmp_nil_l, List.length_drop, ← icmp_sub (k := (i : Int))]
      congr 2 <;> omega
    · rw [show t.drop i = [] from List.drop_of_length_le (by omega), bcmp_nil_r, List.length_drop, ← icmp_sub (k := (i : Int))]
      congr 2 <;> omega
  intro m
  induction m with
  | zero =>
    intro i h h2
    rw [abacistref09_bytes_1_eq, cF (decide_eq_false (by omega))]
    exact stop i (by omega) h2 (.inl (by omega))
  | succ m ih =>
    intro i h h2
    have hi : i < s.length := by omega
    rw [abacistref09_bytes_1_eq, cT (decide_eq_true (by omega))]
    by_cases hj : i < t.length
    · rw [decide_eq_true (show (i : Int) < (t.length : Int) by omega), abacistref09_bytes_2_eq, cond_true, cT (ix hi), cT (ix hj), Int.toNat_natCast, cT (ix hi), cT (ix hj), wS (by omega), ih (i + 1) (by omega) (by omega), getD_drop hi, getD_drop hj]
      generalize s.getD i 0 = a
      generalize t.getD i 0 = b
      have la := a.toNat_lt
      have lb := b.toNat_lt
      rw [bcmp_cons]
      by_cases hab : a = b
      · subst hab
        rw [cF (by rw [decide_eq_true rfl]; rfl), decide_eq_true rfl]; rfl
      · have := u8_ne hab
        rw [cT (by rw [decide_eq_false (by omega)]; rfl), decide_eq_false hab, cond_false, wrap64 (by omega) (by omega), wrap64 (by omega) (by omega), ycOrder]; rfl
    · rw [decide_eq_false (show ¬ (i : Int) < (t.length : Int) by omega)]
      exact stop i (by omega) (by omega) (.inr (by omega))
theorem ycBytes (s t : List UInt8) (hs : s.length ≤ 200) (ht : t.length ≤ 200) : abacistref09_bytes s t = some (bcmp s t) := by
  rw [abacistref09_bytes_eq]
  exact ycBytes1 s t hs ht s.length 0 (Nat.zero_add _) (Nat.zero_le _)
/-! ### values -/
/-- A value that is no fault. -/
structure Cl (x : Vl) : Prop where
  t : x.1 = 2 ∨ x.2.2.1 = []
  b : x.1 = 3 ∨ x.2.2.2.1 = false
  l : x.2.2.1.length ≤ 200
  n : x.1 = 0 ∨ x.1 = 1 ∨ x.1 = 2 ∨ x.1 = 3
theorem cl_blank : Cl blank := ⟨.inr rfl, .inr rfl, by simp [blank], .inl rfl⟩
theorem cl_num (r : Rt) : Cl (vNum r) := ⟨.inr rfl, .inr rfl, by simp [vNum], .inr (.inl rfl)⟩
theorem cl_truth (b : Bool) : Cl (vTruth b) := ⟨.inr rfl, .inl rfl, by simp [vTruth], .inr (.inr (.inr rfl))⟩
theorem cl_text {s : List UInt8} (h : plainV s = true) : Cl (vText s) := by
  rw [vText, h, cond_true]
  refine ⟨.inl rfl, .inr rfl, ?_, .inr (.inr (.inl rfl))⟩
  unfold plainV at h
  simp only [Bool.and_eq_true, decide_eq_true_eq] at h
  exact h.2
theorem cl_of {v : Vl} (h : cFault v = 0) : Cl v := by
  rcases fault_kind h with k | k | ⟨k, hp, k2⟩ | k
  · rw [k]; exact cl_blank
  · rw [k]; exact cl_num _
  · rw [k]; exact cl_text hp
  · rw [k]; exact cl_truth _
theorem cl_like {v : Vl} (h : Cl v) (k : Int) : Cl (likeV v k) := by
  unfold likeV
  cases decide (v.1 = 0)
  · exact h
  · cases decide (k = 1)
    · cases decide (k = 2)
      · cases decide (k = 3)
        · exact h
        · exact cl_truth _
      · exact cl_text (s := []) (by rfl)
    · exact cl_num _
def bitI (b : Bool) : Int := cond b 1 0
def ordV (x y : Vl) : Int := cond (!decide (x.1 = y.1)) (icmp x.1 y.1) (cond (decide (x.1 = 1)) (cmpR x.2.1 y.2.1) (cond (decide (x.1 = 2)) (bcmp x.2.2.1 y.2.2.1) (icmp (bitI x.2.2.2.1) (bitI y.2.2.2.1))))
def cmpV (a b : Vl) : Int × Int := cond (!decide (cFault a = 0)) (0, cFault a) (cond (!decide (cFault b = 0)) (0, cFault b) (ordV (likeV a b.1) (likeV b a.1), 0))
theorem xcBit (b : Bool) : coerce_bit b = some (bitI b) := by rw [coerce_bit_eq]; cases b <;> rfl
theorem ycBit (b : Bool) : abacistref09_bit b = some (bitI b) := by rw [abacistref09_bit_eq]; cases b <;> rfl
theorem xVCmp (a b : Vl) (ha : a.2.2.1.length ≤ 9223372036854775807) (hb : b.2.2.1.length ≤ 9223372036854775807) : coerce_Cmp a b = some (cmpV a b) := by
  rw [coerce_Cmp_eq, coerce_Cmp_1_eq]
  show (coerce_cell_fault a).bind (fun v1 => cond (!decide (v1 = 0)) _ ((coerce_cell_fault b).bind _)) = _
  rw [xcFault a ha, Option.bind_some, xcFault b hb, Option.bind_some, cmpV]
  by_cases h1 : cFault a = 0
  · rw [cF (by rw [decide_eq_true h1]; rfl), cF (by rw [decide_eq_true h1]; rfl), coerce_Cmp_2_eq]
    by_cases h2 : cFault b = 0
    · rw [cF (by rw [decide_eq_true h2]; rfl), cF (by rw [decide_eq_true h2]; rfl), xLike, Option.bind_some, xLike, Option.bind_some]
      have hx := cl_like (cl_of h1) b.1
      have hy := cl_like (cl_of h2) a.1
      revert hx hy
      generalize likeV a b.1 = x
      generalize likeV b a.1 = y
      intro hx hy
      rw [xcInt, Option.bind_some, xRCmp, Option.bind_some, xcStr, Option.bind_some, xcBit, Option.bind_some, xcBit, Option.bind_some, xcInt64, Option.bind_some, xcOr, Option.bind_some, ordV]
      by_cases hk : x.1 = y.1
      · rw [decide_eq_true hk]
        simp only [Bool.not_true, cond_false]
        by_cases hn : x.1 = 1
        · rw [decide_eq_true hn]; rfl
        · rw [decide_eq_false hn]
          simp only [cond_false]
          by_cases ht : x.1 = 2
          · rw [decide_eq_true ht]
            have b1 : x.2.2.2.1 = false := hx.b.resolve_left (by omega)
            have b2 : y.2.2.2.1 = false := hy.b.resolve_left (by omega)
            rw [b1, b2]
            by_cases hz : bcmp x.2.2.1 y.2.2.1 = 0
            · rw [decide_eq_true hz, hz]; rfl
            · rw [decide_eq_false hz]; rfl
          · rw [decide_eq_false ht, hx.t.resolve_left ht, hy.t.resolve_left (by omega)]
            rfl
      · rw [decide_eq_false hk]; rfl
    · rw [cT (by rw [decide_eq_false h2]; rfl), cT (by rw [decide_eq_false h2]; rfl)]
  · rw [cT (by rw [decide_eq_false h1]; rfl), cT (by rw [decide_eq_false h1]; rfl), coerce_Cmp_2_eq, cT (by rw [decide_eq_false h1]; rfl)]
theorem yLike (a b : Vl) : abacistref09_like a b = some (likeV a b.1) := by
  rw [abacistref09_like_eq, yROf 0 (by omega) (by omega), Option.bind_some, yvNum, yvText, yvTruth, likeV]
  cases decide (a.1 = 0) <;> cases decide (b.1 = 1) <;> cases decide (b.1 = 2) <;> cases decide (b.1 = 3) <;> rfl
theorem yVCmp (a b : Vl) : abacistref09_Cmp a b = some (cmpV a b) := by
  rw [abacistref09_Cmp_eq, ycFault a, Option.bind_some, ycFault b, Option.bind_some, Option.bind_some, Option.bind_some, cmpV]
  by_cases h1 : cFault a = 0
  · rw [decide_eq_true h1]
    simp only [Bool.not_true, cond_false]
    by_cases h2 : cFault b = 0
    · rw [decide_eq_true h2]
      simp only [Bool.not_true, cond_false]
      rw [yLike, Option.bind_some, yLike, Option.bind_some]
      have hx := cl_like (cl_of h1) b.1
      have hy := cl_like (cl_of h2) a.1
      revert hx hy
      generalize likeV a b.1 = x
      generalize likeV b a.1 = y
      intro hx hy
      rw [ycOrder, Option.bind_some, yRCmp, Option.bind_some, ycBytes _ _ hx.l hy.l, Option.bind_some, ycBit, Option.bind_some, ycBit, Option.bind_some, ycOrder, Option.bind_some, ordV]
      cases decide (x.1 = y.1) <;> cases decide (x.1 = 1) <;> cases decide (x.1 = 2) <;> rfl
    · rw [decide_eq_false h2]; rfl
  · rw [decide_eq_false h1]; rfl
/-! ### the order -/
theorem cmpR_neg (a b : Rt) : cmpR b a = - cmpR a b := by unfold cmpR; exact icmp_neg _ _
theorem dn_pos (a : Rt) : 0 < dn (well a) := by
  obtain ⟨s, n, d, e, f⟩ := well_form a
  rw [e]
  unfold dn
  simp only [val_nat]
  have := f.pos
  omega
theorem cmpR_le {a b c : Rt} (h1 : cmpR a b ≤ 0) (h2 : cmpR b c ≤ 0) : cmpR a c ≤ 0 := by
  unfold cmpR at *
  rw [icmp_le] at *
  have pa := dn_pos a
  have pb := dn_pos b
  have pc := dn_pos c
  generalize tp (well a) = A at *
  generalize tp (well b) = B at *
  generalize tp (well c) = C at *
  generalize dn (well a) = x at *
  generalize dn (well b) = y at *
  generalize dn (well c) = z at *
  have e1 : A * y * z ≤ B * x * z := Int.mul_le_mul_of_nonneg_right h1 (by omega)
  have e2 : B * z * x ≤ C * y * x := Int.mul_le_mul_of_nonneg_right h2 (by omega)
  have e3 : B * x * z = B * z * x := by rw [Int.mul_assoc, Int.mul_comm x z, ← Int.mul_assoc]
  have e4 : A * y * z = A * z * y := by rw [Int.mul_assoc, Int.mul_comm y z, ← Int.mul_assoc]
  have e5 : C * y * x = C * x * y := by rw [Int.mul_assoc, Int.mul_comm y x, ← Int.mul_assoc]
  exact Int.le_of_mul_le_mul_right (show A * z * y ≤ C * x * y by omega) pb
theorem ordV_neg (x y : Vl) : ordV y x = - ordV x y := by
  unfold ordV
  by_cases hk : x.1 = y.1
  · rw [decide_eq_true hk, decide_eq_true hk.symm, ← hk]
    simp only [Bool.not_true, cond_false]
    cases decide (x.1 = 1)
    · cases decide (x.1 = 2)
      · exact icmp_neg _ _
      · exact bcmp_neg _ _
    · exact cmpR_neg _ _
  · rw [decide_eq_false hk, decide_eq_false (fun h => hk h.symm)]
    exact icmp_neg _ _
theorem ordV_le {x y z : Vl} (h1 : ordV x y ≤ 0) (h2 : ordV y z ≤ 0) : ordV x z ≤ 0 := by
  unfold ordV at *
  by_cases hxy : x.1 = y.1
  · rw [decide_eq_true hxy] at h1
    simp only [Bool.not_true, cond_false] at h1
    by_cases hyz : y.1 = z.1
    · rw [decide_eq_true hyz, ← hxy] at h2
      rw [decide_eq_true (hxy.trans hyz)]
      simp only [Bool.not_true, cond_false] at h2 ⊢
      cases h : decide (x.1 = 1)
      · rw [h] at h1 h2
        simp only [cond_false] at h1 h2 ⊢
        cases h' : decide (x.1 = 2)
        · rw [h'] at h1 h2
          simp only [cond_false] at h1 h2 ⊢
          rw [icmp_le] at *
          omega
        · rw [h'] at h1 h2
          exact bcmp_le _ _ _ h1 h2
      · rw [h] at h1 h2
        exact cmpR_le h1 h2
    · rw [decide_eq_false hyz, ← hxy] at h2
      rw [decide_eq_false (by omega)]
      exact h2
  · rw [decide_eq_false hxy] at h1
    simp only [Bool.not_false, cond_true, icmp_le] at h1
    have hlt : x.1 < y.1 := by omega
    by_cases hyz : y.1 = z.1
    · rw [decide_eq_false (by omega)]
      simp only [Bool.not_false, cond_true, icmp_le]
      omega
    · rw [decide_eq_false hyz] at h2
      simp only [Bool.not_false, cond_true, icmp_le] at h2
      rw [decide_eq_false (by omega)]
      simp only [Bool.not_false, cond_true, icmp_le]
      omega
theorem ordV_range (x y : Vl) : ordV x y = -1 ∨ ordV x y = 0 ∨ ordV x y = 1 := by
  unfold ordV cmpR
  have hi : ∀ a b : Int, icmp a b = -1 ∨ icmp a b = 0 ∨ icmp a b = 1 := fun a b => by rcases icmp_cases a b with ⟨_, e⟩ | ⟨_, e⟩ | ⟨_, e⟩ <;> omega
  cases decide (x.1 = y.1) <;> cases decide (x.1 = 1) <;> cases decide (x.1 = 2) <;> first | exact hi _ _ | exact bcmp_range _ _
end Go.Proofs.YtodfaihlddiokaaGreatDoor.D

/- CoerceCmp. -/
set_option linter.unusedVariables false
set_option linter.unusedSimpArgs false
namespace Go.Proofs.YtodfaihlddiokaaGreatDoor.D
open Go Go.Proofs.YtodfaihlddiokaaGreatDoor.K
def firstV (a b c : Vl) : Int := cond (!decide (cFault a = 0)) (cFault a) (cond (!decide (cFault b = 0)) (cFault b) (cond (!decide (cFault c = 0)) (cFault c) 0))
theorem xFirst3 (a b c : Vl) (ha : a.2.2.1.length ≤ 9223372036854775807) (hb : b.2.2.1.length ≤ 9223372036854775807) (hc : c.2.2.1.length ≤ 9223372036854775807) : coerce_First [a, b, c] = some (firstV a b c) := by
  have e3 : coerce_First_1 [a, b, c] 3 3 = some 0 := by rw [coerce_First_1_eq]; rfl
  have e2 : coerce_First_1 [a, b, c] 3 2 = some (cond (!decide (cFault c = 0)) (cFault c) 0) := by
    rw [coerce_First_1_eq]
    show (coerce_cell_fault c).bind (fun v1 => cond (!decide (v1 = 0)) (some v1) (coerce_First_1 [a, b, c] 3 3)) = _
    rw [e3, xcFault c hc, Option.bind_some]
    cases decide (cFault c = 0) <;> rfl
  have e1 : coerce_First_1 [a, b, c] 3 1 = some (cond (!decide (cFault b = 0)) (cFault b) (cond (!decide (cFault c = 0)) (cFault c) 0)) := by
    rw [coerce_First_1_eq]
    show (coerce_cell_fault b).bind (fun v1 => cond (!decide (v1 = 0)) (some v1) (coerce_First_1 [a, b, c] 3 2)) = _
    rw [e2, xcFault b hb, Option.bind_some]
    cases decide (cFault b = 0) <;> rfl
  rw [coerce_First_eq, coerce_First_1_eq]
  show (coerce_cell_fault a).bind (fun v1 => cond (!decide (v1 = 0)) (some v1) (coerce_First_1 [a, b, c] 3 1)) = _
  rw [e1, xcFault a ha, Option.bind_some, firstV]
  cases decide (cFault a = 0) <;> rfl
theorem yFirst3 (a b c : Vl) : abacistref09_First [a, b, c] = some (firstV a b c) := by
  have e3 : abacistref09_First_1 [a, b, c] 3 = some 0 := by rw [abacistref09_First_1_eq]; rfl
  have e2 : abacistref09_First_1 [a, b, c] 2 = some (cond (!decide (cFault c = 0)) (cFault c) 0) := by
    rw [abacistref09_First_1_eq]
    show (abacistref09_fault c).bind (fun v1 => cond (!decide (v1 = 0)) ((abacistref09_fault c).bind fun v2 => some v2) (abacistref09_First_1 [a, b, c] 3)) = _
    rw [e3, ycFault c, Option.bind_some]
    cases decide (cFault c = 0) <;> rfl
  have e1 : abacistref09_First_1 [a, b, c] 1 = some (cond (!decide (cFault b = 0)) (cFault b) (cond (!decide (cFault c = 0)) (cFault c) 0)) := by
    rw [abacistref09_First_1_eq]
    show (abacistref09_fault b).bind (fun v1 => cond (!decide (v1 = 0)) ((abacistref09_fault b).bind fun v2 => some v2) (abacistref09_First_1 [a, b, c] 2)) = _
    rw [e2, ycFault b, Option.bind_some]
    cases decide (cFault b = 0) <;> rfl
  rw [abacistref09_First_eq, abacistref09_First_1_eq]
  show (abacistref09_fault a).bind (fun v1 => cond (!decide (v1 = 0)) ((abacistref09_fault a).bind fun v2 => some v2) (abacistref09_First_1 [a, b, c] 1)) = _
  rw [e1, ycFault a, Option.bind_some, firstV]
  cases decide (cFault a = 0) <;> rfl
theorem cmpV_zero {a b : Vl} (h : (cmpV a b).2 = 0) : cFault a = 0 ∧ cFault b = 0 ∧ cmpV a b = (ordV (likeV a b.1) (likeV b a.1), 0) := by
  unfold cmpV at h ⊢
  by_cases h1 : cFault a = 0
  · rw [decide_eq_true h1] at h ⊢
    by_cases h2 : cFault b = 0
    · rw [decide_eq_true h2]; exact ⟨h1, h2, rfl⟩
    · rw [decide_eq_false h2] at h; exact absurd h h2
  · rw [decide_eq_false h1] at h; exact absurd h h1
theorem cmpV_swap {a b : Vl} (h : (cmpV a b).2 = 0) : cmpV b a = (-(cmpV a b).1, 0) := by
  obtain ⟨h1, h2, e⟩ := cmpV_zero h
  rw [e]
  unfold cmpV
  rw [decide_eq_true h1, decide_eq_true h2, ordV_neg]; rfl
theorem like_self {a : Vl} (h : ¬ a.1 = 0) (k : Int) : likeV a k = a := by unfold likeV; rw [decide_eq_false h]; rfl
theorem cmp9 (a b c : Vl) (ha : a.2.2.1.length ≤ 9223372036854775807) (hb : b.2.2.1.length ≤ 9223372036854775807) (hc : c.2.2.1.length ≤ 9223372036854775807) : abacistlaw09_CoerceCmp a b c = some true := by
  have k2 : ∀ n i j, abacistlaw09_CoerceCmp_2 n i j false = some true := fun n i j => by rw [abacistlaw09_CoerceCmp_2_eq, Bool.not_false, cond_true, known9]; rfl
  have k2' : ∀ n i j, (n ≤ 0 → i ≤ 0 → j ≤ 0) → ∀ q, abacistlaw09_CoerceCmp_2 n i j q = some true := fun n i j h q => by
    cases q with
    | false => exact k2 n i j
    | true =>
      rw [abacistlaw09_CoerceCmp_2_eq, Bool.not_true, cond_false]
      by_cases h1 : n > 0
      · rw [cT (decide_eq_true h1), known9]; rfl
      rw [cF (decide_eq_false h1)]
      by_cases h2 : i > 0
      · rw [cT (decide_eq_true h2), known9]; rfl
      rw [cF (decide_eq_false h2), cT (decide_eq_true (h (by omega) (by omega))), known9]; rfl
  have k1 : abacistlaw09_CoerceCmp_1 (cmpV a b).1 (cmpV a b).2 false a b c = some true := by
    rw [abacistlaw09_CoerceCmp_1_eq, cond_false, xVCmp b c hb hc, Option.bind_some, xVCmp a c ha hc, Option.bind_some]
    by_cases za : a.1 = 0
    · rw [cF (by rw [decide_eq_true za]; rfl), k2]
    by_cases zb : b.1 = 0
    · rw [cT (by rw [decide_eq_false za]; rfl), cF (by rw [decide_eq_true zb]; rfl), k2]
    by_cases zc : c.1 = 0
    · rw [cT (by rw [decide_eq_false za]; rfl), cT (by rw [decide_eq_false zb]; rfl), cF (by rw [decide_eq_true zc]; rfl), k2]
    rw [cT (by rw [decide_eq_false za]; rfl), cT (by rw [decide_eq_false zb]; rfl), cT (by rw [decide_eq_false zc]; rfl)]
    by_cases e1 : (cmpV a b).2 = 0
    · rw [cT (decide_eq_true e1)]
      by_cases e2 : (cmpV b c).2 = 0
      · rw [cT (decide_eq_true e2)]
        by_cases e3 : (cmpV a c).2 = 0
        · refine k2' _ _ _ ?_ _
          obtain ⟨_, _, h1⟩ := cmpV_zero e1
          obtain ⟨_, _, h2⟩ := cmpV_zero e2
          obtain ⟨_, _, h3⟩ := cmpV_zero e3
          rw [h1, h2, h3, like_self za, like_self za, like_self zb, like_self zb, like_self zc, like_self zc]
          exact ordV_le
        · rw [decide_eq_false e3, k2]
      · rw [cF (decide_eq_false e2), k2]
    · rw [cF (decide_eq_false e1), k2]
  rw [abacistlaw09_CoerceCmp_eq, xVCmp a b ha hb, Option.bind_some, yVCmp, Option.bind_some, xVCmp b a hb ha, Option.bind_some, xFirst3 a b c ha hb hc, Option.bind_some, yFirst3, Option.bind_some]
  simp only [decide_true, Bool.not_true, cond_false]
  by_cases e : (cmpV a b).2 = 0
  · have hs := cmpV_swap e
    have hr : (cmpV a b).1 = -1 ∨ (cmpV a b).1 = 0 ∨ (cmpV a b).1 = 1 := by
      obtain ⟨_, _, h1⟩ := cmpV_zero e
      rw [h1]; exact ordV_range _ _
    rw [decide_eq_true e, hs, wrap64 (by omega) (by omega), Int.zero_sub]
    simp only [decide_true, Bool.not_true, cond_false, cond_true]
    exact k1
  · rw [decide_eq_false e, cond_false]
    exact k1
end Go.Proofs.YtodfaihlddiokaaGreatDoor.D
namespace Go.Proofs.YtodfaihlddiokaaGreatDoor.K
open Go
theorem CoerceCmp (a : Int × (Bool × List UInt8 × List UInt8) × List UInt8 × Bool × Int) (ha : Wf (.pair (.int .i64) (.pair (.pair .bool (.pair .str .str)) (.pair .str (.pair .bool (.int .i64))))) a) (b : Int × (Bool × List UInt8 × List UInt8) × List UInt8 × Bool × Int) (hb : Wf (.pair (.int .i64) (.pair (.pair .bool (.pair .str .str)) (.pair .str (.pair .bool (.int .i64))))) b) (c : Int × (Bool × List UInt8 × List UInt8) × List UInt8 × Bool × Int) (hc : Wf (.pair (.int .i64) (.pair (.pair .bool (.pair .str .str)) (.pair .str (.pair .bool (.int .i64))))) c) : abacistlaw09_CoerceCmp a b c = some true := D.cmp9 a b c ha.2.2.1 hb.2.2.1 hc.2.2.1
end Go.Proofs.YtodfaihlddiokaaGreatDoor.K
