/- Decimal digits: plain Lean; the program's, the reference's, and the two laws. -/
import Derived.Test.YtcdcijhfjiahkaaDoorRE1
import Derived.Test.YtcdcijhfjiahkaaDoorRKHdec
import Derived.Test.YtcdcijhfjiahkaaDoorRKR
set_option linter.unusedVariables false
set_option linter.unusedSimpArgs false
namespace Go.Proofs.YtcdcijhfjiahkaaDoorR.P
open Go Go.Proofs.YtcdcijhfjiahkaaDoorR.Q
def dv (l : List UInt8) : Nat := l.foldl (fun n c => n * 10 + (c.toNat - 48)) 0
theorem dv_nil : dv [] = 0 := rfl
theorem dv_snoc (l : List UInt8) (c : UInt8) : dv (l ++ [c]) = dv l * 10 + (c.toNat - 48) := by unfold dv; rw [List.foldl_append]; rfl
theorem snocU {Q : List UInt8 → Prop} (h0 : Q []) (h1 : ∀ l b, Q l → Q (l ++ [b])) : ∀ l, Q l := by
  intro l
  have : Q l.reverse.reverse := by
    induction l.reverse with
    | nil => exact h0
    | cons b l ih => rw [List.reverse_cons]; exact h1 _ _ ih
  rwa [List.reverse_reverse] at this
theorem dv_append (a : List UInt8) : ∀ b, dv (a ++ b) = dv a * 10 ^ b.length + dv b := by
  refine snocU ?_ ?_
  · simp [dv_nil]
  · intro l c ih
    rw [← List.append_assoc, dv_snoc, ih, dv_snoc, List.length_append, List.length_cons, List.length_nil, Nat.pow_succ]
    generalize 10 ^ l.length = X
    rw [Nat.add_mul, Nat.mul_assoc]; omega
theorem dv_cons (c : UInt8) (l : List UInt8) : dv (c :: l) = (c.toNat - 48) * 10 ^ l.length + dv l := by
  have := dv_append [c] l
  simpa [dv] using this
def dig (c : UInt8) : Bool := decide (48 ≤ c.toNat) && decide (c.toNat ≤ 57)
def good (l : List UInt8) : Bool := l.all dig
theorem dig_le {c : UInt8} (h : dig c = true) : 48 ≤ c.toNat ∧ c.toNat ≤ 57 := by
  unfold dig at h
  simpa using h
theorem dv_lt (l : List UInt8) (h : good l = true) : dv l < 10 ^ l.length := by
  revert h
  refine snocU (Q := fun l => good l = true → dv l < 10 ^ l.length) ?_ ?_ l
  · intro _; simp [dv_nil]
  · intro l c ih h
    have h1 : good l = true ∧ dig c = true := by simpa [good] using h
    have h2 := ih h1.1
    have h3 := dig_le h1.2
    rw [dv_snoc, List.length_append, List.length_cons, List.length_nil, Nat.pow_succ]
    omega
def ten (n : Nat) : List UInt8 := if h : n = 0 then [] else ten (n / 10) ++ [UInt8.ofNat (48 + n % 10)]
termination_by n
decreasing_by omega
theorem ten_zero : ten 0 = [] := by rw [ten]; simp
theorem ten_pos {n : Nat} (h : n ≠ 0) : ten n = ten (n / 10) ++ [UInt8.ofNat (48 + n % 10)] := by rw [ten]; simp [h]
theorem ten_nil {n : Nat} : ten n = [] ↔ n = 0 := by
  constructor
  · intro h
    rcases Nat.eq_zero_or_pos n with h0 | h0
    · exact h0
    · rw [ten_pos (by omega)] at h
      simp at h
  · rintro rfl; exact ten_zero
theorem byte48 (n : Nat) : (UInt8.ofNat (48 + n % 10)).toNat = 48 + n % 10 := UInt8.toNat_ofNat_of_lt' (by show _ < 256; omega)
theorem byte_back {c : UInt8} (h : dig c = true) : UInt8.ofNat (48 + (c.toNat - 48) % 10) = c := by
  have := dig_le h
  apply UInt8.toNat_inj.1
  rw [byte48]
  omega
theorem trim_snoc (l : List UInt8) (c : UInt8) : Lib.trimLeftB (l ++ [c]) 48 = if Lib.trimLeftB l 48 = [] then (if c = 48 then [] else [c]) else Lib.trimLeftB l 48 ++ [c] := by
  unfold Lib.trimLeftB
  induction l with
  | nil => by_cases h : c = 48 <;> simp [List.dropWhile_cons, h]
  | cons a l ih =>
    simp only [List.cons_append, List.dropWhile_cons]
    split
    · exact ih
    · simp
theorem trim_ten (l : List UInt8) (h : good l = true) : Lib.trimLeftB l 48 = ten (dv l) := by
  revert h
  refine snocU (Q := fun l => good l = true → Lib.trimLeftB l 48 = ten (dv l)) ?_ ?_ l
  · intro _; rw [dv_nil, ten_zero]; rfl
  · intro l c ih h
    have h1 : good l = true ∧ dig c = true := by simpa [good] using h
    have h2 := ih h1.1
    have h3 := dig_le h1.2
    have h4 := byte_back h1.2
    rw [trim_snoc, h2, dv_snoc]
    by_cases hz : dv l = 0
    · rw [hz, ten_zero, if_pos rfl]
      by_cases hc : c = 48
      · subst hc; rw [if_pos rfl]; exact ten_zero.symm
      · have hc2 : c.toNat ≠ 48 := fun e => hc (UInt8.toNat_inj.1 e)
        rw [if_neg hc, ten_pos (by omega), show (0 * 10 + (c.toNat - 48)) / 10 = 0 by omega, ten_zero, show (0 * 10 + (c.toNat - 48)) % 10 = (c.toNat - 48) % 10 by omega, h4]; rfl
    · rw [if_neg (fun e => hz (ten_nil.1 e)), ten_pos (n := dv l * 10 + (c.toNat - 48)) (by omega), show (dv l * 10 + (c.toNat - 48)) / 10 = dv l by omega, show (dv l * 10 + (c.toNat - 48)) % 10 = (c.toNat - 48) % 10 by omega, h4]
theorem dig48 (n : Nat) : dig (UInt8.ofNat (48 + n % 10)) = true := by
  unfold dig
  rw [byte48]
  simp; omega
theorem digitsL_good : ∀ k n, good (digitsL k n) = true
  | 0, _ => rfl
  | k + 1, n => by
    have := digitsL_good k (n / 10)
    unfold good at *
    rw [digitsL, List.all_append, this]
    simp only [List.all_cons, List.all_nil, dig48, Bool.and_true]
theorem digitsL_dv : ∀ k n, dv (digitsL k n) = n % 10 ^ k
  | 0, n => by simp [digitsL, dv_nil, Nat.mod_one]
  | k + 1, n => by
    rw [digitsL, dv_snoc, digitsL_dv k, byte48, Nat.pow_succ, Nat.mul_comm (10 ^ k), Nat.mod_mul]
    omega
def decT (n : Nat) : List UInt8 := if n = 0 then [48] else ten n
theorem parts_ok (n : Nat) : good (decParts n).reverse.flatten = true ∧ dv (decParts n).reverse.flatten = n := by
  induction n using Nat.strongRecOn with
  | _ n ih =>
    by_cases h : n = 0
    · subst h; exact ⟨rfl, rfl⟩
    · obtain ⟨h1, h2⟩ := ih (n / 1000000000) (by omega)
      have h3 := digitsL_good 9 (n % 1000000000)
      have h4 := digitsL_dv 9 (n % 1000000000)
      have h5 := digitsL_length 9 (n % 1000000000)
      rw [decParts_pos h, List.reverse_cons, List.flatten_append, List.flatten_cons, List.flatten_nil, List.append_nil]
      refine ⟨by unfold good at *; rw [List.all_append, h1, h3]; rfl, ?_⟩
      rw [dv_append, h2, h4, h5]
      omega
theorem decText_ok (n : Nat) : decText n = decT n := by
  obtain ⟨h1, h2⟩ := parts_ok n
  rw [decText, decTrim, trim_ten _ h1, h2, decT]
  by_cases h : n = 0
  · subst h; rw [ten_zero, if_pos rfl]; rfl
  · rw [if_neg h, decide_eq_false (fun e => h (ten_nil.1 e)), cond_false]
theorem ten_good (n : Nat) : good (ten n) = true := by
  induction n using Nat.strongRecOn with
  | _ n ih =>
    by_cases h : n = 0
    · subst h; rw [ten_zero]; rfl
    · have := ih (n / 10) (by omega)
      unfold good at *
      rw [ten_pos h, List.all_append, this]; simp only [List.all_cons, List.all_nil, dig48, Bool.and_true]
theorem ten_dv (n : Nat) : dv (ten n) = n := by
  induction n using Nat.strongRecOn with
  | _ n ih =>
    by_cases h : n = 0
    · subst h; rw [ten_zero]; rfl
    · rw [ten_pos h, dv_snoc, ih (n / 10) (by omega), byte48]; omega
theorem ten_len {k : Nat} : ∀ {n : Nat}, n < 10 ^ k → (ten n).length ≤ k := by
  induction k with
  | zero => intro n h; have : n = 0 := by simpa using h
            subst this; rw [ten_zero]; exact Nat.le_refl _
  | succ k ih =>
    intro n h
    by_cases h0 : n = 0
    · subst h0; rw [ten_zero]; exact Nat.zero_le _
    · have := ih (n := n / 10) (by rw [Nat.pow_succ] at h; omega)
      rw [ten_pos h0, List.length_append]; simp; omega
theorem decT_good (n : Nat) : good (decT n) = true := by
  unfold decT
  split
  · rfl
  · exact ten_good n
theorem decT_dv (n : Nat) : dv (decT n) = n := by
  unfold decT
  split
  · rename_i h; subst h; rfl
  · exact ten_dv n
theorem decT_ne (n : Nat) : decT n ≠ [] := by
  unfold decT
  split
  · simp
  · rename_i h; exact fun e => h (ten_nil.1 e)
theorem decT_len {k n : Nat} (h : n < 10 ^ k) (hk : 1 ≤ k) : (decT n).length ≤ k := by
  unfold decT
  split
  · exact hk
  · exact ten_len h
theorem decT_len2 {a b n : Nat} (h : n < 10 ^ a * 10 ^ b) (hk : 1 ≤ a + b) : (decT n).length ≤ a + b := decT_len (by rw [Nat.pow_add]; exact h) hk
theorem decT_150 {n : Nat} (h : n < 256 ^ 75 * 256 ^ 75) : (decT n).length ≤ 400 := by
  have h1 : (256 : Nat) ^ 75 ≤ 10 ^ 200 := Nat.le_of_ble_eq_true rfl
  exact decT_len2 (a := 200) (b := 200) (Nat.lt_of_lt_of_le h (Nat.mul_le_mul h1 h1)) (by omega)
theorem nat_ten_len {n k : Nat} (h : n < 10 ^ k) : (nat n).length ≤ k := nat_length_le (Nat.lt_of_lt_of_le h (Nat.pow_le_pow_left (by decide) k))
end Go.Proofs.YtcdcijhfjiahkaaDoorR.P
namespace Go.Proofs.YtcdcijhfjiahkaaDoorR.D
open Go Go.Proofs.YtcdcijhfjiahkaaDoorR.K
open Go.Proofs.YtcdcijhfjiahkaaDoorR.P (nat val dv good dig dig_le ten ten_zero ten_pos ten_nil ten_len ten_good ten_dv decT decT_good decT_dv decT_ne decT_len decT_150 decText_ok trim_ten dv_nil dv_snoc dv_append dv_cons dv_lt divmod small val_nat nat_zero nat_eq_nil nat_val_length nat_length_le len_mono val_lt wS nat_ten_len val_one)
open Go.Proofs.YtcdcijhfjiahkaaDoorR.Q (trimQ ofQ smallQ addQ mulQ divQ decQ ok1)
theorem ok_le {s : List UInt8} (h : s.length ≤ 1000000000) : ok1 s = true := Nat.ble_eq_true_of_le h
theorem xTrim (s : List UInt8) (h : s.length ≤ 1000000000) : nat_Trim s = some (nat (val s)) := by
  refine (top_call ..).trans ?_
  show trimQ s = _
  unfold trimQ
  rw [ok_le h, cond_true, P.trimB]
theorem yTrim (s : List UInt8) (h : s.length ≤ 1000000000) : abacistref01_Trim s = some (nat (val s)) := by
  refine (top_call ..).trans ?_
  show trimQ s = _
  unfold trimQ
  rw [ok_le h, cond_true, P.trimB]
theorem ofQ_eq (n : Nat) (h : n < 18446744073709551616) : ofQ (n : Int) = some (nat n) := by
  unfold ofQ
  rw [show (decide ((0 : Int) ≤ (n : Int)) && decide ((n : Int) < 18446744073709551616)) = true by simp; omega, cond_true, Int.toNat_natCast]
theorem xOf (n : Nat) (h : n < 18446744073709551616) : nat_Of (n : Int) = some (nat n) := (top_call ..).trans (ofQ_eq n h)
theorem yOf (n : Nat) (h : n < 18446744073709551616) : abacistref01_Of (n : Int) = some (nat n) := (top_call ..).trans (ofQ_eq n h)
theorem ok2 {a b : List UInt8} (ha : a.length ≤ 1000000000) (hb : b.length ≤ 1000000000) : (ok1 a && ok1 b) = true := by rw [ok_le ha, ok_le hb]; rfl
theorem addQ_eq (a b : List UInt8) (ha : a.length ≤ 1000000000) (hb : b.length ≤ 1000000000) : addQ (a, b) = some (nat (val a + val b)) := by
  unfold addQ
  simp only
  rw [ok2 ha hb, cond_true]
theorem mulQ_eq (a b : List UInt8) (ha : a.length ≤ 1000000000) (hb : b.length ≤ 1000000000) : mulQ (a, b) = some (nat (val a * val b)) := by
  unfold mulQ
  simp only
  rw [ok2 ha hb, cond_true]
theorem divQ_eq (a b : List UInt8) (ha : a.length ≤ 1000000000) (hb : b.length ≤ 1000000000) : divQ (a, b) = some (divmod (val a) (val b)) := by
  unfold divQ
  simp only
  rw [ok2 ha hb, cond_true]
theorem xAdd (a b : List UInt8) (ha : a.length ≤ 1000000000) (hb : b.length ≤ 1000000000) : nat_Add a b = some (nat (val a + val b)) := (top_call ..).trans (addQ_eq a b ha hb)
theorem yAdd (a b : List UInt8) (ha : a.length ≤ 1000000000) (hb : b.length ≤ 1000000000) : abacistref01_Add a b = some (nat (val a + val b)) := (top_call ..).trans (addQ_eq a b ha hb)
theorem xMul (a b : List UInt8) (ha : a.length ≤ 1000000000) (hb : b.length ≤ 1000000000) : nat_Mul a b = some (nat (val a * val b)) := (top_call ..).trans (mulQ_eq a b ha hb)
theorem yMul (a b : List UInt8) (ha : a.length ≤ 1000000000) (hb : b.length ≤ 1000000000) : abacistref01_Mul a b = some (nat (val a * val b)) := (top_call ..).trans (mulQ_eq a b ha hb)
theorem xDiv (a b : List UInt8) (ha : a.length ≤ 1000000000) (hb : b.length ≤ 1000000000) : divide_DivMod a b = some (divmod (val a) (val b)) := (top_call ..).trans (divQ_eq a b ha hb)
theorem yDiv (a b : List UInt8) (ha : a.length ≤ 1000000000) (hb : b.length ≤ 1000000000) : abacistref02_DivMod a b = some (divmod (val a) (val b)) := (top_call ..).trans (divQ_eq a b ha hb)
theorem ySmall (s : List UInt8) (h : s.length ≤ 1000000000) : abacistref01_Small s = some (small (val s)) := by
  refine (top_call ..).trans ?_
  show smallQ s = _
  unfold smallQ
  rw [ok_le h, cond_true]
theorem xText (s : List UInt8) (h : s.length ≤ 1000000000) : dec_Text s = some (decT (val s)) := by
  refine (top_call ..).trans ?_
  show decQ s = _
  unfold decQ
  rw [ok_le h, cond_true, decText_ok]
/-! ### the reference's text -/
theorem digit_at (r : Nat) (h : r < 10) : (([48, 49, 50, 51, 52, 53, 54, 55, 56, 57] : List UInt8).take (r + 1)).drop r = [UInt8.ofNat (48 + r)] := by
  have : r = 0 ∨ r = 1 ∨ r = 2 ∨ r = 3 ∨ r = 4 ∨ r = 5 ∨ r = 6 ∨ r = 7 ∨ r = 8 ∨ r = 9 := by omega
  rcases this with rfl | rfl | rfl | rfl | rfl | rfl | rfl | rfl | rfl | rfl <;> rfl
theorem val10 : val [10] = 10 := rfl
theorem textStep (m : Nat) (s : List UInt8) (i : Nat) (hm : (nat m).length ≤ 1000) (hs : s.length ≤ 10000) (hi : i < 5000) : abacistref03_Text_2 (nat m) s (i : Int) true = abacistref03_Text_1 (nat (m / 10)) (UInt8.ofNat (48 + m % 10) :: s) ((i + 1 : Nat) : Int) := by
  have hr := Nat.mod_lt m (show 0 < 10 by decide)
  have hrl : (nat (m % 10)).length ≤ 1 := nat_length_le (by omega)
  have e1 : IntKind.u64.wrap (((m % 10 : Nat) : Int) + 1) = ((m % 10 + 1 : Nat) : Int) := by rw [wrapU64 (by omega) (by omega)]; omega
  rw [abacistref03_Text_2_eq, cond_true, yDiv _ _ (by omega) (by simp), Option.bind_some, val10, val_nat, divmod, if_neg (by decide)]
  simp only
  rw [ySmall _ (by omega), Option.bind_some, val_nat, small, if_pos (by omega)]
  simp only
  rw [e1, Int.toNat_natCast, Int.toNat_natCast, digit_at _ hr, show (decide ((0 : Int) ≤ ((m % 10 : Nat) : Int)) && (decide (((m % 10 : Nat) : Int) ≤ ((m % 10 + 1 : Nat) : Int)) && decide (((m % 10 + 1 : Nat) : Int) ≤ ((([48, 49, 50, 51, 52, 53, 54, 55, 56, 57] : List UInt8).length : Nat) : Int)))) = true by simp; omega, cond_true,
    cT (Nat.ble_eq_true_of_le (by simp; omega)), wS (by omega)]
  rfl
theorem text0 (s : List UInt8) (i : Nat) (hi : 0 < i) : abacistref03_Text_1 [] s (i : Int) = some s := by
  rw [abacistref03_Text_1_eq, cF (c := decide ((i : Int) = 0)) (decide_eq_false (by omega)), show (!decide (([] : List UInt8) = [])) = false from rfl, abacistref03_Text_2_eq, cond_false]
  cases decide ((i : Int) < 5000) <;> rfl
theorem text1 : ∀ (f m i : Nat) (s : List UInt8), m ≤ f → 0 < i → (nat m).length ≤ 1000 → (ten m).length + i ≤ 4000 → s.length ≤ i → abacistref03_Text_1 (nat m) s (i : Int) = some (ten m ++ s)
  | f, m, i, s, hf, hi, hl, ht, hs => by
    by_cases h0 : m = 0
    · subst h0; rw [nat_zero, text0 s i hi, ten_zero]; rfl
    · match f with
      | 0 => omega
      | f + 1 =>
        have e : ten m = ten (m / 10) ++ [UInt8.ofNat (48 + m % 10)] := ten_pos h0
        rw [e] at ht
        simp at ht
        rw [abacistref03_Text_1_eq, cT (decide_eq_true (by omega)), cF (decide_eq_false (by omega)), decide_eq_false (fun e => h0 (nat_eq_nil.1 e)), show (!false) = true from rfl, textStep m s i hl (by omega) (by omega),
          text1 f (m / 10) (i + 1) _ (by omega) (by omega) (Nat.le_trans (len_mono (Nat.div_le_self _ _)) hl) (by omega) (by simp; omega), e, List.append_assoc]; rfl
theorem yText (s : List UInt8) (h : s.length ≤ 150) : abacistref03_Text s = some (decT (val s)) := by
  have hl := nat_val_length s
  have hv := val_lt s
  have ht : (ten (val s)).length ≤ 3 * s.length := by
    refine ten_len (Nat.lt_of_lt_of_le hv ?_)
    rw [Nat.pow_mul]
    exact Nat.pow_le_pow_left (by decide) _
  have h10 : (ten (val s / 10)).length ≤ 3 * s.length := by
    refine ten_len (Nat.lt_of_le_of_lt (Nat.div_le_self _ _) (Nat.lt_of_lt_of_le hv ?_))
    rw [Nat.pow_mul]
    exact Nat.pow_le_pow_left (by decide) _
  have := textStep (val s) [] 0 (by omega) (by simp) (by omega)
  have e0 : abacistref03_Text_2 (nat (val s)) [] 0 true = _ := this
  rw [abacistref03_Text_eq, yTrim s (by omega), Option.bind_some, abacistref03_Text_1_eq, cT (by rfl), cT (by rfl), e0, text1 (val s / 10) (val s / 10) 1 _ (Nat.le_refl _) (by omega) (Nat.le_trans (len_mono (Nat.div_le_self _ _)) (by omega)) (by omega) (by simp), decT]
  by_cases h0 : val s = 0
  · rw [if_pos h0, h0, ten_zero]; rfl
  · rw [if_neg h0, ten_pos h0]
/-! ### how often a number divides one -/
def ordB (b m : Nat) : Nat := if h : m = 0 ∨ b < 2 then 0 else if m % b = 0 then ordB b (m / b) + 1 else 0
termination_by m
decreasing_by exact Nat.div_lt_self (by omega) (by omega)
theorem ord_stop (b m : Nat) (h : m = 0 ∨ m % b ≠ 0) : ordB b m = 0 := by
  rw [ordB]
  rcases h with h | h
  · simp [h]
  · split
    · rfl
    · first | rfl | rw [if_neg h]
theorem ord_go (b m : Nat) (hm : m ≠ 0) (hb : 2 ≤ b) (h : m % b = 0) : ordB b m = ordB b (m / b) + 1 := by
  conv => lhs; rw [ordB]
  rw [dif_neg (by omega), if_pos h]
theorem div_two {b m e : Nat} (hb : 2 ≤ b) (h : m < 2 ^ (e + 1)) : m / b < 2 ^ e := by
  have h1 : m / b ≤ m / 2 := Nat.div_le_div_left hb (by decide)
  rw [Nat.pow_succ] at h
  omega
theorem xOften (b : Nat) (hb : 2 ≤ b) (hb2 : b < 256) : ∀ (e m k : Nat), m < 2 ^ e → (nat m).length ≤ 1000 → k + e ≤ 15000 → dec_often_1 (nat m) (b : Int) (k : Int) = some ((k + ordB b m : Nat) : Int)
  | e, m, k, he, hl, hk => by
    by_cases h0 : m = 0
    · subst h0; rw [nat_zero, dec_often_1_eq, cF (by rfl), ord_stop b 0 (.inl rfl)]; rfl
    · match e with
      | 0 => simp at he; omega
      | e + 1 =>
        have lb : (nat b).length ≤ 1 := nat_length_le (by omega)
        rw [dec_often_1_eq, cT (by rw [decide_eq_false (fun e => h0 (nat_eq_nil.1 e))]; rfl), xOf b (by omega), Option.bind_some, xDiv _ _ (by omega) (by omega), Option.bind_some, val_nat, val_nat, divmod, if_neg (by omega)]
        simp only
        rw [cF (by rfl)]
        by_cases hm : m % b = 0
        · rw [hm, nat_zero, show (!decide (([] : List UInt8) = [])) = false from rfl, dec_often_2_eq, cond_false, wS (by omega), xOften b hb hb2 e (m / b) (k + 1) (div_two hb he) (Nat.le_trans (len_mono (Nat.div_le_self _ _)) hl) (by omega), ord_go b m h0 hb hm]
          congr 2
          omega
        · rw [decide_eq_false (fun e => hm (nat_eq_nil.1 e)), show (!false) = true from rfl, dec_often_2_eq, cond_true, ord_stop b m (.inr hm)]; rfl
theorem yOften0 (t : List UInt8) (k i : Int) : abacistref03_often_1 [] t k i = some k := by
  rw [abacistref03_often_1_eq, show (!decide (([] : List UInt8) = [])) = false from rfl, abacistref03_often_2_eq, cond_false]
  cases decide (i < 20000) <;> rfl
theorem yOften (b : Nat) (t : List UInt8) (ht : val t = b) (htl : t.length ≤ 10) (hb : 2 ≤ b) : ∀ (e m k i : Nat), m < 2 ^ e → (nat m).length ≤ 1000 → k + e ≤ 15000 → i + e ≤ 15000 → abacistref03_often_1 (nat m) t (k : Int) (i : Int) = some ((k + ordB b m : Nat) : Int)
  | e, m, k, i, he, hl, hk, hi => by
    by_cases h0 : m = 0
    · subst h0; rw [nat_zero, yOften0, ord_stop b 0 (.inl rfl)]; rfl
    · match e with
      | 0 => simp at he; omega
      | e + 1 =>
        rw [abacistref03_often_1_eq, cT (decide_eq_true (by omega)), decide_eq_false (fun e => h0 (nat_eq_nil.1 e)), show (!false) = true from rfl, abacistref03_often_2_eq, cond_true, yDiv _ _ (by omega) (by omega), Option.bind_some, val_nat, ht, divmod, if_neg (by omega)]
        simp only
        by_cases hm : m % b = 0
        · rw [hm, nat_zero, cF (by rfl), wS (by omega), wS (by omega), yOften b t ht htl hb e (m / b) (k + 1) (i + 1) (div_two hb he) (Nat.le_trans (len_mono (Nat.div_le_self _ _)) hl) (by omega) (by omega), ord_go b m h0 hb hm]
          congr 2
          omega
        · rw [cT (by rw [decide_eq_false (fun e => hm (nat_eq_nil.1 e))]; rfl), ord_stop b m (.inr hm)]; rfl
theorem pow8 (k : Nat) : 256 ^ k = 2 ^ (8 * k) := by rw [show (256 : Nat) = 2 ^ 8 by decide, ← Nat.pow_mul]
theorem xTwos (a : List UInt8) (h : a.length ≤ 150) : dec_Twos a = some (((ordB 2 (val a) : Nat) : Int), ((ordB 5 (val a) : Nat) : Int)) := by
  have hl := nat_val_length a
  have hv := val_lt a
  rw [pow8] at hv
  have h2 := xOften 2 (by omega) (by omega) (8 * a.length) (val a) 0 hv (by omega) (by omega)
  have h5 := xOften 5 (by omega) (by omega) (8 * a.length) (val a) 0 hv (by omega) (by omega)
  rw [Nat.zero_add] at h2 h5
  have e2 : dec_often (nat (val a)) 2 = _ := (dec_often_eq _ _).trans h2
  have e5 : dec_often (nat (val a)) 5 = _ := (dec_often_eq _ _).trans h5
  rw [dec_Twos_eq, xTrim a (by omega), Option.bind_some, e2, Option.bind_some, e5]; rfl
theorem yTwos (a : List UInt8) (h : a.length ≤ 150) : abacistref03_Twos a = some (((ordB 2 (val a) : Nat) : Int), ((ordB 5 (val a) : Nat) : Int)) := by
  have hl := nat_val_length a
  have hv := val_lt a
  rw [pow8] at hv
  have h2 := yOften 2 [2] rfl (by simp) (by omega) (8 * a.length) (val a) 0 0 hv (by omega) (by omega) (by omega)
  have h5 := yOften 5 [5] rfl (by simp) (by omega) (8 * a.length) (val a) 0 0 hv (by omega) (by omega) (by omega)
  rw [Nat.zero_add] at h2 h5
  have e2 : abacistref03_often (nat (val a)) [2] = _ := (abacistref03_often_eq _ _).trans h2
  have e5 : abacistref03_often (nat (val a)) [5] = _ := (abacistref03_often_eq _ _).trans h5
  rw [abacistref03_Twos_eq, yTrim a (by omega), Option.bind_some, e2, Option.bind_some, e5]; rfl
/-! ### texts as numbers -/
def parseV (s : List UInt8) : List UInt8 × Int := if s = [] ∨ good s = false then ([], 3) else if s.length > 400 then ([], 9) else (nat (dv s), 0)
theorem good_get {s : List UInt8} {i : Nat} (h : i < s.length) : s[i] = s.getD i 0 := by
  rw [List.getD_eq_getElem?_getD, List.getElem?_eq_getElem h]; rfl
theorem good_drop {s : List UInt8} {i : Nat} (h : i < s.length) : good (s.drop i) = (dig (s.getD i 0) && good (s.drop (i + 1))) := by
  rw [List.drop_eq_getElem_cons h, good_get h]; rfl
theorem xOdd1 (s : List UInt8) (hs : s.length ≤ 9223372036854775807) : ∀ (m i : Nat), i + m = s.length → dec_odd_1 (s.map fun b => (b.toNat : Int)) ((s.map fun b => (b.toNat : Int)).length : Int) (i : Int) = some (!good (s.drop i))
  | 0, i, h => by
    rw [dec_odd_1_eq, cF (decide_eq_false (by rw [List.length_map]; omega)), List.drop_of_length_le (by omega)]; rfl
  | m + 1, i, h => by
    have hi : i < s.length := by omega
    have hg : (s.map fun b => (b.toNat : Int)).getD (i : Int).toNat 0 = ((s.getD i 0).toNat : Int) := by simp [List.getD, hi]
    have next : dec_odd_2 (s.map fun b => (b.toNat : Int)) ((s.map fun b => (b.toNat : Int)).length : Int) (i : Int) false = some (!good (s.drop (i + 1))) := by
      rw [dec_odd_2_eq, cond_false, wS (by omega)]; exact xOdd1 s hs m (i + 1) (by omega)
    have stop : dec_odd_2 (s.map fun b => (b.toNat : Int)) ((s.map fun b => (b.toNat : Int)).length : Int) (i : Int) true = some true := by rw [dec_odd_2_eq, cond_true]
    rw [dec_odd_1_eq, cT (decide_eq_true (by rw [List.length_map]; omega)), cT (by rw [List.length_map]; exact ix hi), hg, good_drop hi]
    generalize s.getD i 0 = c
    by_cases h1 : c.toNat < 48
    · rw [cT (decide_eq_true (by omega)), stop, show dig c = false by unfold dig; simp; omega]; rfl
    · rw [cF (decide_eq_false (by omega))]
      by_cases h2 : c.toNat > 57
      · rw [decide_eq_true (show (c.toNat : Int) > 57 by omega), stop, show dig c = false by unfold dig; simp; omega]; rfl
      · rw [decide_eq_false (show ¬ (c.toNat : Int) > 57 by omega), next, show dig c = true by unfold dig; simp; omega]; rfl
theorem xOdd (s : List UInt8) (hs : s.length ≤ 9223372036854775807) : dec_odd s = some (!good s) := (dec_odd_eq s).trans (xOdd1 s hs s.length 0 (Nat.zero_add _))
theorem dig_get {s : List UInt8} (h : good s = true) {i : Nat} (hi : i < s.length) : dig (s.getD i 0) = true := by
  rw [← good_get hi]
  exact List.all_eq_true.1 h _ (List.getElem_mem hi)
theorem dv_take {s : List UInt8} {i : Nat} (h : i < s.length) : dv (s.take (i + 1)) = dv (s.take i) * 10 + ((s.getD i 0).toNat - 48) := by
  rw [List.take_add_one, List.getElem?_eq_getElem h, good_get h]
  simp only [Option.toList_some, dv_snoc]
theorem good_take {s : List UInt8} (h : good s = true) (i : Nat) : good (s.take i) = true := List.all_eq_true.2 fun x hx => List.all_eq_true.1 h x (List.mem_of_mem_take hx)
theorem good_dropT {s : List UInt8} (h : good s = true) (i : Nat) : good (s.drop i) = true := List.all_eq_true.2 fun x hx => List.all_eq_true.1 h x (List.mem_of_mem_drop hx)
/-- The digits of a piece. -/
theorem xParse3 (s : List UInt8) (A : Nat) (c : List UInt8) (hc : good c = true) (hcl : c.length ≤ 9) (hA : (nat A).length ≤ 100000) (k : Nat) (hk : k ≤ s.length) : ∀ (m i : Nat), i + m = c.length →
    dec_Parse_3 s (nat A) (k : Int) ((dv (c.take i) : Nat) : Int) ((10 ^ i : Nat) : Int) (c.map fun b => (b.toNat : Int)) (c.length : Int) (i : Int) = dec_Parse_2 (s.drop k) (nat (A * 10 ^ c.length + dv c))
  | 0, i, h => by
    obtain rfl : i = c.length := by omega
    have hp : 10 ^ c.length ≤ 10 ^ 9 := Nat.pow_le_pow_right (by decide) hcl
    have hd := dv_lt c hc
    have lp : (nat (10 ^ c.length)).length ≤ 4 := nat_length_le (by omega)
    have ld : (nat (dv c)).length ≤ 4 := nat_length_le (by omega)
    have lm : (nat (A * 10 ^ c.length)).length ≤ 1000000 := by
      have h1 := val_lt (nat A)
      have h2 := val_lt (nat (10 ^ c.length))
      rw [val_nat] at h1 h2
      have : A * 10 ^ c.length < 256 ^ ((nat A).length + (nat (10 ^ c.length)).length) := by rw [Nat.pow_add]; exact Nat.mul_lt_mul'' h1 h2
      exact Nat.le_trans (nat_length_le this) (by omega)
    rw [dec_Parse_3_eq, cF (decide_eq_false (by omega)), xOf _ (by omega), Option.bind_some, xMul _ _ (by omega) (by omega), Option.bind_some, List.take_length, xOf _ (by omega), Option.bind_some, val_nat, val_nat, xAdd _ _ (by omega) (by omega), Option.bind_some, val_nat, val_nat,
      cT (P.inC hk), Int.toNat_natCast]
  | m + 1, i, h => by
    have hi : i < c.length := by omega
    have hg : (c.map fun b => (b.toNat : Int)).getD (i : Int).toNat 0 = ((c.getD i 0).toNat : Int) := by simp [List.getD, hi]
    have hd := dig_le (dig_get hc hi)
    have hv := dv_lt (c.take i) (good_take hc i)
    have hp : 10 ^ (c.take i).length ≤ 10 ^ 8 := Nat.pow_le_pow_right (by decide) (by simp; omega)
    have hp2 : 10 ^ i ≤ 10 ^ 8 := Nat.pow_le_pow_right (by decide) (by omega)
    have e := dv_take hi
    have := xParse3 s A c hc hcl hA k hk m (i + 1) (by omega)
    rw [dec_Parse_3_eq, cT (decide_eq_true (by omega)), cT (by rw [List.length_map]; exact ix hi), hg]
    generalize c.getD i 0 = ch at hd e
    have e1 : IntKind.u64.wrap (IntKind.u64.wrap (((dv (c.take i) : Nat) : Int) * 10) + IntKind.u64.wrap (IntKind.u8.wrap ((ch.toNat : Int) - 48))) = ((dv (c.take (i + 1)) : Nat) : Int) := by
      rw [e]
      generalize dv (c.take i) = V at hv
      rw [wrapU8 (by omega) (by omega), wrapU64 (n := (V : Int) * 10) (by omega) (by omega), wrapU64 (n := (ch.toNat : Int) - 48) (by omega) (by omega), wrapU64 (by omega) (by omega)]
      omega
    have e2 : IntKind.u64.wrap (((10 ^ i : Nat) : Int) * 10) = ((10 ^ (i + 1) : Nat) : Int) := by
      rw [Nat.pow_succ]
      generalize 10 ^ i = X at hp2
      rw [wrapU64 (by omega) (by omega)]; omega
    rw [e1, e2, wS (by omega)]
    exact this
theorem xParse2 : ∀ (f : Nat) (s : List UInt8) (A j : Nat), s.length ≤ f → good s = true → A < 10 ^ j → j + s.length ≤ 400 → dec_Parse_2 s (nat A) = some (nat (A * 10 ^ s.length + dv s), 0)
  | f, s, A, j, hf, hg, hA, hj => by
    by_cases h0 : s.length = 0
    · obtain rfl : s = [] := List.eq_nil_of_length_eq_zero h0
      rw [dec_Parse_2_eq, cF (decide_eq_false (by simp)), dv_nil]; simp
    · match f with
      | 0 => omega
      | f + 1 =>
        have lA := nat_ten_len hA
        have hk : min (9 : Int) (s.length : Int) = ((min 9 s.length : Nat) : Int) := by omega
        have hkl : min 9 s.length ≤ s.length := by omega
        have hcl : (s.take (min 9 s.length)).length = min 9 s.length := by simp
        have h3 := xParse3 s A (s.take (min 9 s.length)) (good_take hg _) (by omega) (by omega) (min 9 s.length) hkl _ 0 (Nat.zero_add _)
        have h3' : dec_Parse_3 s (nat A) ((min 9 s.length : Nat) : Int) 0 1 ((s.take (min 9 s.length)).map fun b => (b.toNat : Int)) ((s.take (min 9 s.length)).length : Int) 0 = _ := h3
        have hsplit : dv s = dv (s.take (min 9 s.length)) * 10 ^ (s.drop (min 9 s.length)).length + dv (s.drop (min 9 s.length)) := by rw [← dv_append, List.take_append_drop]
        have hdl := dv_lt (s.take (min 9 s.length)) (good_take hg _)
        rw [hcl] at hdl
        have hA2 : A * 10 ^ (min 9 s.length) + dv (s.take (min 9 s.length)) < 10 ^ (j + min 9 s.length) := by
          rw [Nat.pow_add]
          have : (A + 1) * 10 ^ (min 9 s.length) ≤ 10 ^ j * 10 ^ (min 9 s.length) := Nat.mul_le_mul_right _ hA
          rw [Nat.succ_mul] at this
          omega
        have hlen : s.length = min 9 s.length + (s.drop (min 9 s.length)).length := by simp; omega
        have hpow : 10 ^ s.length = 10 ^ (min 9 s.length) * 10 ^ (s.drop (min 9 s.length)).length := by rw [← Nat.pow_add, ← hlen]
        rw [dec_Parse_2_eq, cT (decide_eq_true (by omega)), hk, cT (P.inC hkl), Int.toNat_natCast, List.length_map, h3', hcl,
          xParse2 f (s.drop (min 9 s.length)) _ (j + min 9 s.length) (by simp; omega) (good_dropT hg _) hA2 (by omega), hsplit, hpow]
        generalize 10 ^ (min 9 s.length) = X
        generalize 10 ^ (s.drop (min 9 s.length)).length = Y
        rw [Nat.add_mul, Nat.mul_assoc, Nat.add_assoc]
theorem xParse (s : List UInt8) (hs : s.length ≤ 9223372036854775807) : dec_Parse s = some (parseV s) := by
  rw [dec_Parse_eq, parseV]
  by_cases h0 : s = []
  · subst h0; rw [cT (by rfl), dec_Parse_1_eq, cond_true, if_pos (.inl rfl)]
  · rw [cF (decide_eq_false h0), xOdd s hs, Option.bind_some, dec_Parse_1_eq]
    by_cases hg : good s = true
    · rw [hg, show (!true) = false from rfl, cond_false, if_neg (by simp [h0])]
      by_cases hl : s.length > 400
      · rw [cT (decide_eq_true (by omega)), if_pos hl]
      · have := xParse2 s.length s 0 0 (Nat.le_refl _) hg (by simp) (by omega)
        rw [nat_zero, Nat.zero_mul, Nat.zero_add] at this
        rw [cF (decide_eq_false (by omega)), if_neg hl, this]
    · have hg : good s = false := by simpa using hg
      rw [hg, show (!false) = true from rfl, cond_true, if_pos (.inr rfl)]
theorem yParse3 (s : List UInt8) (hg : good s = true) (hl : s.length ≤ 400) : ∀ (m i : Nat), i + m = s.length → abacistref03_Parse_3 s (nat (dv (s.take i))) (i : Int) = some (nat (dv s), 0)
  | 0, i, h => by
    obtain rfl : i = s.length := by omega
    rw [abacistref03_Parse_3_eq, cF (decide_eq_false (by omega)), List.take_length]
  | m + 1, i, h => by
    have hi : i < s.length := by omega
    have hd := dig_le (dig_get hg hi)
    have hv := dv_lt (s.take i) (good_take hg i)
    have lA := nat_ten_len hv
    have e := dv_take hi
    have := yParse3 s hg hl m (i + 1) (by omega)
    have l1 : (s.take i).length ≤ 400 := by simp; omega
    have lm : (nat (dv (s.take i) * 10)).length ≤ 1000 := by
      have : dv (s.take i) * 10 < 10 ^ ((s.take i).length + 1) := by rw [Nat.pow_succ]; omega
      exact Nat.le_trans (nat_ten_len this) (by omega)
    rw [abacistref03_Parse_3_eq, cT (decide_eq_true (by omega)), yMul _ _ (by omega) (by simp), Option.bind_some, val10, val_nat, cT (ix hi), Int.toNat_natCast]
    generalize s.getD i 0 = ch at hd e
    have e1 : IntKind.u64.wrap (IntKind.u8.wrap ((ch.toNat : Int) - 48)) = ((ch.toNat - 48 : Nat) : Int) := by
      rw [wrapU8 (by omega) (by omega), wrapU64 (by omega) (by omega)]; omega
    have lc : (nat (ch.toNat - 48)).length ≤ 1 := nat_length_le (by omega)
    rw [e1, yOf _ (by omega), Option.bind_some, yAdd _ _ (by omega) (by omega), Option.bind_some, val_nat, val_nat, ← e, wS (by omega)]
    exact this
theorem yParse1 (s : List UInt8) (hs : s.length ≤ 9223372036854775807) : ∀ (m i : Nat), i + m = s.length → good (s.take i) = true → abacistref03_Parse_1 s (i : Int) = some (parseV s)
  | 0, i, h, hgt => by
    have hg : good s = true := by rwa [List.take_of_length_le (by omega)] at hgt
    rw [abacistref03_Parse_1_eq, cF (decide_eq_false (by omega)), parseV]
    by_cases h0 : s = []
    · rw [cT (decide_eq_true h0), if_pos (.inl h0)]
    · rw [cF (decide_eq_false h0), if_neg (by simp [h0, hg])]
      by_cases hl : s.length > 400
      · rw [cT (decide_eq_true (by omega)), if_pos hl]
      · rw [cF (decide_eq_false (by omega)), if_neg hl]
        have := yParse3 s hg (by omega) s.length 0 (Nat.zero_add _)
        rw [List.take_zero, dv_nil, nat_zero] at this
        exact this
  | m + 1, i, h, hgt => by
    have hi : i < s.length := by omega
    have stop : dig (s.getD i 0) = false → abacistref03_Parse_2 s (i : Int) true = some (parseV s) := fun hb => by
      have hg : good s = false := by
        cases hgs : good s with
        | false => rfl
        | true => rw [dig_get hgs hi] at hb; cases hb
      rw [abacistref03_Parse_2_eq, cond_true, parseV, if_pos (.inr hg)]
    have next : dig (s.getD i 0) = true → abacistref03_Parse_2 s (i : Int) false = some (parseV s) := fun hb => by
      rw [abacistref03_Parse_2_eq, cond_false, wS (by omega)]
      refine yParse1 s hs m (i + 1) (by omega) ?_
      rw [List.take_add_one, List.getElem?_eq_getElem hi, good_get hi]
      unfold good at *
      rw [List.all_append, hgt]
      simpa using hb
    rw [abacistref03_Parse_1_eq, cT (decide_eq_true (by omega)), cT (ix hi), cT (ix hi), Int.toNat_natCast]
    generalize s.getD i 0 = c at stop next
    by_cases h1 : c.toNat < 48
    · rw [cT (decide_eq_true (by omega)), stop (by unfold dig; simp; omega)]
    · rw [cF (decide_eq_false (by omega))]
      by_cases h2 : c.toNat > 57
      · rw [decide_eq_true (show (c.toNat : Int) > 57 by omega), stop (by unfold dig; simp; omega)]
      · rw [decide_eq_false (show ¬ (c.toNat : Int) > 57 by omega), next (by unfold dig; simp; omega)]
theorem yParse (s : List UInt8) (hs : s.length ≤ 9223372036854775807) : abacistref03_Parse s = some (parseV s) := (abacistref03_Parse_eq s).trans (yParse1 s hs s.length 0 (Nat.zero_add _) (by rw [List.take_zero]; rfl))
/-! ### the laws -/
theorem known : abacistlaw03_known = some true := of_depth 200 (by kernel_rfl)
theorem texts (a : List UInt8) : abacistlaw03_DecTexts a = some true := by
  rw [abacistlaw03_DecTexts_eq]
  by_cases hl : (a.length : Int) > 150
  · rw [cT (decide_eq_true hl), known]; rfl
  · have hv := val_lt a
    have h2 : 256 ^ a.length ≤ 256 ^ (75 + 75) := Nat.pow_le_pow_right (by decide) (by omega)
    rw [Nat.pow_add] at h2
    have hlen := decT_150 (n := val a) (Nat.lt_of_lt_of_le hv h2)
    have hp : parseV (decT (val a)) = (nat (val a), 0) := by rw [parseV, if_neg (by simp [decT_ne, decT_good]), if_neg (by omega), decT_dv]
    rw [cF (decide_eq_false hl), xText a (by omega), Option.bind_some, xTwos a (by omega), Option.bind_some, yTwos a (by omega), Option.bind_some, xParse _ (by omega), Option.bind_some, hp, yText a (by omega), Option.bind_some, cT (decide_eq_true rfl), dec_Digits_eq, xText a (by omega), Option.bind_some, Option.bind_some,
      cT (decide_eq_true rfl), cT (decide_eq_true rfl), cT (decide_eq_true rfl), yTrim a (by omega), Option.bind_some, cT (decide_eq_true rfl), cT (decide_eq_true rfl), known]; rfl
theorem parse2 : ∀ (f : Nat) (t : List UInt8) (v : Nat), t.length ≤ f → t ≠ [] → good t = true → dv t = v → (nat v).length ≤ 1000 → t.length ≤ 400 → abacistlaw03_DecParse_2 (nat v) t = some true
  | 0, t, v, hf, h0, _, _, _, _ => absurd (List.eq_nil_of_length_eq_zero (by omega)) h0
  | f + 1, t, v, hf, h0, hg, hv, hl, htl => by
    obtain ⟨c, l, rfl⟩ : ∃ c l, t = c :: l := by
      cases t with
      | nil => exact absurd rfl h0
      | cons c l => exact ⟨c, l, rfl⟩
    have hgc : dig c = true ∧ good l = true := by simpa [good] using hg
    have hd := dig_le hgc.1
    have fin : decT v = c :: l → abacistlaw03_DecParse_3 (nat v) (c :: l) false = some true := fun e => by
      rw [abacistlaw03_DecParse_3_eq, cond_false, xText _ (by omega), Option.bind_some, val_nat, cT (decide_eq_true e), known]; rfl
    have htr := trim_ten (c :: l) hg
    rw [hv] at htr
    rw [abacistlaw03_DecParse_2_eq]
    by_cases h48 : c = 48
    · subst h48
      have hdv : dv l = v := by rw [dv_cons] at hv; simpa using hv
      by_cases hl1 : l.length = 0
      · obtain rfl : l = [] := List.eq_nil_of_length_eq_zero hl1
        rw [cF (decide_eq_false (by simp))]
        refine fin ?_
        rw [dv_nil] at hdv
        rw [← hdv]; rfl
      · rw [cT (decide_eq_true (by simp; omega)), cT (by simp), show decide ((((48 :: l : List UInt8).getD 0 0).toNat : Int) = 48) = true from rfl, abacistlaw03_DecParse_3_eq, cond_true, cT (by simp; omega), show ((48 : UInt8) :: l).drop 1 = l from rfl]
        exact parse2 f l v (by simpa using hf) (by intro e; rw [e] at hl1; exact hl1 rfl) hgc.2 hdv hl (by simp at htl; omega)
    · have hc : c.toNat ≠ 48 := fun e => h48 (UInt8.toNat_inj.1 e)
      have et : ten v = c :: l := by
        rw [← htr]
        unfold Lib.trimLeftB
        rw [List.dropWhile_cons]
        simp [h48]
      have hvn : v ≠ 0 := fun e => by rw [e, ten_zero] at et; cases et
      have ed : decT v = c :: l := by rw [decT, if_neg hvn, et]
      have hne : decide ((((c :: l : List UInt8).getD 0 0).toNat : Int) = 48) = false := by
        rw [List.getD_cons_zero]
        exact decide_eq_false (by omega)
      by_cases hl1 : (((c :: l : List UInt8).length : Nat) : Int) > 1
      · rw [cT (decide_eq_true hl1), cT (by simp), hne]; exact fin ed
      · rw [cF (decide_eq_false hl1)]; exact fin ed
theorem parses (s : List UInt8) (hs : s.length ≤ 9223372036854775807) : abacistlaw03_DecParse s = some true := by
  rw [abacistlaw03_DecParse_eq, xParse s hs, Option.bind_some, yParse s hs, Option.bind_some, cF (by rw [decide_eq_true rfl]; rfl), show (!decide ((parseV s).2 = (parseV s).2)) = false by rw [decide_eq_true rfl]; rfl, abacistlaw03_DecParse_1_eq, cond_false, parseV]
  by_cases h1 : s = [] ∨ good s = false
  · rw [if_pos h1]
    simp only
    rw [cT (by rfl), known]; rfl
  · rw [if_neg h1]
    by_cases h2 : s.length > 400
    · rw [if_pos h2]
      simp only
      rw [cT (by rfl), known]; rfl
    · rw [if_neg h2]
      simp only
      have hg : good s = true := by
        cases h : good s with
        | true => rfl
        | false => exact absurd (.inr h) h1
      have hd := dv_lt s hg
      have hl := nat_ten_len hd
      rw [cF (by rfl)]
      exact parse2 s.length s (dv s) (Nat.le_refl _) (fun e => h1 (.inl e)) hg rfl (by omega) (by omega)
end Go.Proofs.YtcdcijhfjiahkaaDoorR.D
namespace Go.Proofs.YtcdcijhfjiahkaaDoorR.K
open Go
theorem DecTexts (a : List UInt8) (_ : Wf .str a) : abacistlaw03_DecTexts a = some true := D.texts a
theorem DecParse (s : List UInt8) (h : Wf .str s) : abacistlaw03_DecParse s = some true := by
  have h : s.length ≤ maxLen := h
  exact D.parses s (by unfold maxLen at h; omega)
end Go.Proofs.YtcdcijhfjiahkaaDoorR.K
