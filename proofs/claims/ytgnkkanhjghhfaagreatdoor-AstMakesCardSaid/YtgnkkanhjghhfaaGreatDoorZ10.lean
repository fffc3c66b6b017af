/- Part 10 of the proof: the machine, the tables and the pure laws that the last text joins. -/
import Derived.Test.YtgnkkanhjghhfaaGreatDoorZ9
import Derived.Test.YtgnkkanhjghhfaaGreatDoorZ6
import Derived.Lib.IndexBytes
import Derived.Test.YtgnkkanhjghhfaaGreatDoorZ4
set_option linter.unusedVariables false
set_option linter.unusedSimpArgs false
namespace Go.Proofs.YtgnkkanhjghhfaaGreatDoor.P
open Go Go.Proofs.YtgnkkanhjghhfaaGreatDoor.Q
def dv (l : List UInt8) : Nat := l.foldl (fun n c => n * 10 + (c.toNat - 48)) 0
theorem dv_nil : dv [] = 0 := rfl
theorem dv_snoc (l : List UInt8) (c : UInt8) : dv (l ++ [c]) = dv l * 10 + (c.toNat - 48) := by unfold dv; rw [List.foldl_append]; rfl
theorem snocU {Q : List UInt8 → Prop} (h0 : Q []) (h1 : ∀ l b, Q l → Q (l ++ [b])) : ∀ l, Q l := by
 intro l
 have : Q l.reverse.reverse := by
  induction l.reverse with
  | nil => exact h0
  | cons b l ih => rw [List.reverse_cons]; exact h1 _ _ ih
 rwa [List.reverse_reverse] at this
theorem dv_append (a : List UInt8) : ∀ b, dv (a ++ b) = dv a * 10 ^ b.length + dv b := by
 refine snocU ?_ ?_
 ·simp [dv_nil]
 ·intro l c ih
  rw [← List.append_assoc, dv_snoc, ih, dv_snoc, List.length_append, List.length_cons, List.length_nil, Nat.pow_succ]
  generalize 10 ^ l.length = X
  rw [Nat.add_mul, Nat.mul_assoc]; omega
theorem dv_cons (c : UInt8) (l : List UInt8) : dv (c :: l) = (c.toNat - 48) * 10 ^ l.length + dv l := by
 have := dv_append [c] l
 simpa [dv] using this
def dig (c : UInt8) : Bool := decide (48 ≤ c.toNat) && decide (c.toNat ≤ 57)
def good (l : List UInt8) : Bool := l.all dig
theorem dig_le {c : UInt8} (h : dig c = true) : 48 ≤ c.toNat ∧ c.toNat ≤ 57 := by
 unfold dig at h
 simpa using h
theorem dv_lt (l : List UInt8) (h : good l = true) : dv l < 10 ^ l.length := by
 revert h
 refine snocU (Q := fun l => good l = true → dv l < 10 ^ l.length) ?_ ?_ l
 ·intro _; simp [dv_nil]
 ·intro l c ih h
  have h1 : good l = true ∧ dig c = true := by simpa [good] using h
  have h2 := ih h1.1
  have h3 := dig_le h1.2
  rw [dv_snoc, List.length_append, List.length_cons, List.length_nil, Nat.pow_succ]
  omega
def ten (n : Nat) : List UInt8 := if h : n = 0 then [] else ten (n / 10) ++ [UInt8.ofNat (48 + n % 10)]
termination_by n
decreasing_by omega
theorem ten_zero : ten 0 = [] := by rw [ten]; simp
theorem ten_pos {n : Nat} (h : n ≠ 0) : ten n = ten (n / 10) ++ [UInt8.ofNat (48 + n % 10)] := by rw [ten]; simp [h]
theorem ten_nil {n : Nat} : ten n = [] ↔ n = 0 := by
 constructor
 ·intro h
  rcases Nat.eq_zero_or_pos n with h0 | h0
  ·exact h0
  ·rw [ten_pos (by omega)] at h
   simp at h
 ·rintro rfl; exact ten_zero
theorem byte48 (n : Nat) : (UInt8.ofNat (48 + n % 10)).toNat = 48 + n % 10 := UInt8.toNat_ofNat_of_lt' (by show _ < 256; omega)
theorem byte_back {c : UInt8} (h : dig c = true) : UInt8.ofNat (48 + (c.toNat - 48) % 10) = c := by
 have := dig_le h
 apply UInt8.toNat_inj.1
 rw [byte48]
 omega
theorem trim_snoc (l : List UInt8) (c : UInt8) : Lib.trimLeftB (l ++ [c]) 48 = if Lib.trimLeftB l 48 = [] then (if c = 48 then [] else [c]) else Lib.trimLeftB l 48 ++ [c] := by
 unfold Lib.trimLeftB
 induction l with
 | nil => by_cases h : c = 48 <;> simp [List.dropWhile_cons, h]
 | cons a l ih =>
  simp only [List.cons_append, List.dropWhile_cons]
  split
  ·exact ih
  ·simp
theorem trim_ten (l : List UInt8) (h : good l = true) : Lib.trimLeftB l 48 = ten (dv l) := by
 revert h
 refine snocU (Q := fun l => good l = true → Lib.trimLeftB l 48 = ten (dv l)) ?_ ?_ l
 ·intro _; rw [dv_nil, ten_zero]; rfl
 ·intro l c ih h
  have h1 : good l = true ∧ dig c = true := by simpa [good] using h
  have h2 := ih h1.1
  have h3 := dig_le h1.2
  have h4 := byte_back h1.2
  rw [trim_snoc, h2, dv_snoc]
  by_cases hz : dv l = 0
  ·rw [hz, ten_zero, if_pos rfl]
   by_cases hc : c = 48
   ·subst hc; rw [if_pos rfl]; exact ten_zero.symm
   ·have hc2 : c.toNat ≠ 48 := fun e => hc (UInt8.toNat_inj.1 e)
    rw [if_neg hc, ten_pos (by omega), show (0 * 10 + (c.toNat - 48)) / 10 = 0 by omega, ten_zero, show (0 * 10 + (c.toNat - 48)) % 10 = (c.toNat - 48) % 10 by omega, h4]; rfl
  ·rw [if_neg (fun e => hz (ten_nil.1 e)), ten_pos (n := dv l * 10 + (c.toNat - 48)) (by omega), show (dv l * 10 + (c.toNat - 48)) / 10 = dv l by omega, show (dv l * 10 + (c.toNat - 48)) % 10 = (c.toNat - 48) % 10 by omega, h4]
theorem dig48 (n : Nat) : dig (UInt8.ofNat (48 + n % 10)) = true := by
 unfold dig
 rw [byte48]
 simp; omega
def decT (n : Nat) : List UInt8 := if n = 0 then [48] else ten n
theorem ten_good (n : Nat) : good (ten n) = true := by
 induction n using Nat.strongRecOn with
 | _ n ih =>
  by_cases h : n = 0
  ·subst h; rw [ten_zero]; rfl
  ·have := ih (n / 10) (by omega)
   unfold good at *
   rw [ten_pos h, List.all_append, this]; simp only [List.all_cons, List.all_nil, dig48, Bool.and_true]
theorem ten_dv (n : Nat) : dv (ten n) = n := by
 induction n using Nat.strongRecOn with
 | _ n ih =>
  by_cases h : n = 0
  ·subst h; rw [ten_zero]; rfl
  ·rw [ten_pos h, dv_snoc, ih (n / 10) (by omega), byte48]; omega
theorem ten_len {k : Nat} : ∀ {n : Nat}, n < 10 ^ k → (ten n).length ≤ k := by
  induction k with
  | zero => intro n h; have : n = 0 := by simpa using h
            subst this; rw [ten_zero]; exact Nat.le_refl _
  | succ k ih =>
    intro n h
    by_cases h0 : n = 0
    · subst h0; rw [ten_zero]; exact Nat.zero_le _
    · have := ih (n := n / 10) (by rw [Nat.pow_succ] at h; omega)
      rw [ten_pos h0, List.length_append]; simp; omega
theorem decT_good (n : Nat) : good (decT n) = true := by
 unfold decT
 split
 ·rfl
 ·exact ten_good n
theorem decT_dv (n : Nat) : dv (decT n) = n := by
 unfold decT
 split
 ·rename_i h; subst h; rfl
 ·exact ten_dv n
theorem decT_ne (n : Nat) : decT n ≠ [] := by
 unfold decT
 split
 ·simp
 ·rename_i h; exact fun e => h (ten_nil.1 e)
theorem decT_len {k n : Nat} (h : n < 10 ^ k) (hk : 1 ≤ k) : (decT n).length ≤ k := by
 unfold decT
 split
 ·exact hk
 ·exact ten_len h
theorem decT_len2 {a b n : Nat} (h : n < 10 ^ a * 10 ^ b) (hk : 1 ≤ a + b) : (decT n).length ≤ a + b := decT_len (by rw [Nat.pow_add]; exact h) hk
theorem decT_150 {n : Nat} (h : n < 256 ^ 75 * 256 ^ 75) : (decT n).length ≤ 400 := by
 have h1 : (256 : Nat) ^ 75 ≤ 10 ^ 200 := Nat.le_of_ble_eq_true rfl
 exact decT_len2 (a := 200) (b := 200) (Nat.lt_of_lt_of_le h (Nat.mul_le_mul h1 h1)) (by omega)
theorem nat_ten_len {n k : Nat} (h : n < 10 ^ k) : (nat n).length ≤ k := nat_length_le (Nat.lt_of_lt_of_le h (Nat.pow_le_pow_left (by decide) k))
end Go.Proofs.YtgnkkanhjghhfaaGreatDoor.P
namespace Go.Proofs.YtgnkkanhjghhfaaGreatDoor.D
open Go Go.Proofs.YtgnkkanhjghhfaaGreatDoor.K
open Go.Proofs.YtgnkkanhjghhfaaGreatDoor.P (nat val dv good dig dig_le ten ten_zero ten_pos ten_nil ten_len ten_good ten_dv decT decT_good decT_dv decT_ne decT_len decT_150 trim_ten dv_nil dv_snoc dv_append dv_cons dv_lt divmod small val_nat nat_zero nat_eq_nil nat_val_length nat_length_le len_mono val_lt wS nat_ten_len val_one)
open Go.Proofs.YtgnkkanhjghhfaaGreatDoor.Q (trimQ ofQ smallQ addQ mulQ divQ ok1)
theorem ok_le {s : List UInt8} (h : s.length ≤ 1000000000) : ok1 s = true := Nat.ble_eq_true_of_le h
theorem xTrim (s : List UInt8) (h : s.length ≤ 1000000000) : nat_Trim s = some (nat (val s)) := by
 refine (top_call ..).trans ?_
 show trimQ s = _
 unfold trimQ
 rw [ok_le h, cond_true, P.trimB]
theorem yTrim (s : List UInt8) (h : s.length ≤ 1000000000) : r01_Trim s = some (nat (val s)) := by
 refine (top_call ..).trans ?_
 show trimQ s = _
 unfold trimQ
 rw [ok_le h, cond_true, P.trimB]
theorem ofQ_eq (n : Nat) (h : n < 18446744073709551616) : ofQ (n : Int) = some (nat n) := by
 unfold ofQ
 rw [show (decide ((0 : Int) ≤ (n : Int)) && decide ((n : Int) < 18446744073709551616)) = true by simp; omega, cond_true, Int.toNat_natCast]
theorem xOf (n : Nat) (h : n < 18446744073709551616) : nat_Of (n : Int) = some (nat n) := (top_call ..).trans (ofQ_eq n h)
theorem ok2 {a b : List UInt8} (ha : a.length ≤ 1000000000) (hb : b.length ≤ 1000000000) : (ok1 a && ok1 b) = true := by rw [ok_le ha, ok_le hb]; rfl
theorem mulQ_eq (a b : List UInt8) (ha : a.length ≤ 1000000000) (hb : b.length ≤ 1000000000) : mulQ (a, b) = some (nat (val a * val b)) := by
 unfold mulQ
 simp only
 rw [ok2 ha hb, cond_true]
theorem divQ_eq (a b : List UInt8) (ha : a.length ≤ 1000000000) (hb : b.length ≤ 1000000000) : divQ (a, b) = some (divmod (val a) (val b)) := by
 unfold divQ
 simp only
 rw [ok2 ha hb, cond_true]
theorem xMul (a b : List UInt8) (ha : a.length ≤ 1000000000) (hb : b.length ≤ 1000000000) : nat_Mul a b = some (nat (val a * val b)) := (top_call ..).trans (mulQ_eq a b ha hb)
theorem yMul (a b : List UInt8) (ha : a.length ≤ 1000000000) (hb : b.length ≤ 1000000000) : r01_Mul a b = some (nat (val a * val b)) := (top_call ..).trans (mulQ_eq a b ha hb)
theorem xDiv (a b : List UInt8) (ha : a.length ≤ 1000000000) (hb : b.length ≤ 1000000000) : divide_DivMod a b = some (divmod (val a) (val b)) := (top_call ..).trans (divQ_eq a b ha hb)
theorem yDiv (a b : List UInt8) (ha : a.length ≤ 1000000000) (hb : b.length ≤ 1000000000) : r02_DivMod a b = some (divmod (val a) (val b)) := (top_call ..).trans (divQ_eq a b ha hb)
def ordB (b m : Nat) : Nat := if h : m = 0 ∨ b < 2 then 0 else if m % b = 0 then ordB b (m / b) + 1 else 0
termination_by m
decreasing_by exact Nat.div_lt_self (by omega) (by omega)
theorem ord_stop (b m : Nat) (h : m = 0 ∨ m % b ≠ 0) : ordB b m = 0 := by
 rw [ordB]
 rcases h with h | h
 ·simp [h]
 ·split
  ·rfl
  ·first | rfl | rw [if_neg h]
theorem ord_go (b m : Nat) (hm : m ≠ 0) (hb : 2 ≤ b) (h : m % b = 0) : ordB b m = ordB b (m / b) + 1 := by
 conv => lhs; rw [ordB]
 rw [dif_neg (by omega), if_pos h]
theorem div_two {b m e : Nat} (hb : 2 ≤ b) (h : m < 2 ^ (e + 1)) : m / b < 2 ^ e := by
 have h1 : m / b ≤ m / 2 := Nat.div_le_div_left hb (by decide)
 rw [Nat.pow_succ] at h
 omega
theorem xOften (b : Nat) (hb : 2 ≤ b) (hb2 : b < 256) : ∀ (e m k : Nat), m < 2 ^ e → (nat m).length ≤ 1000 → k + e ≤ 15000 → dec_often_1 (nat m) (b : Int) (k : Int) = some ((k + ordB b m : Nat) : Int)
 | e, m, k, he, hl, hk => by
  by_cases h0 : m = 0
  ·subst h0; rw [nat_zero, dec_often_1_eq, cF (by rfl), ord_stop b 0 (.inl rfl)]; rfl
  ·match e with
   | 0 => simp at he; omega
   | e + 1 =>
    have lb : (nat b).length ≤ 1 := nat_length_le (by omega)
    rw [dec_often_1_eq, cT (by rw [decide_eq_false (fun e => h0 (nat_eq_nil.1 e))]; rfl), xOf b (by omega), Option.bind_some, xDiv _ _ (by omega) (by omega), Option.bind_some, val_nat, val_nat, divmod, if_neg (by omega)]
    simp only
    rw [cF (by rfl)]
    by_cases hm : m % b = 0
    ·rw [hm, nat_zero, show (!decide (([] : List UInt8) = [])) = false from rfl, dec_often_2_eq, cond_false, wS (by omega), xOften b hb hb2 e (m / b) (k + 1) (div_two hb he) (Nat.le_trans (len_mono (Nat.div_le_self _ _)) hl) (by omega), ord_go b m h0 hb hm]
     congr 2
     omega
    ·rw [decide_eq_false (fun e => hm (nat_eq_nil.1 e)), show (!false) = true from rfl, dec_often_2_eq, cond_true, ord_stop b m (.inr hm)]; rfl
theorem yOften0 (t : List UInt8) (k i : Int) : r03_often_1 [] t k i = some k := by
 rw [r03_often_1_eq, show (!decide (([] : List UInt8) = [])) = false from rfl, r03_often_2_eq, cond_false]
 cases decide (i < 20000) <;> rfl
theorem yOften (b : Nat) (t : List UInt8) (ht : val t = b) (htl : t.length ≤ 10) (hb : 2 ≤ b) : ∀ (e m k i : Nat), m < 2 ^ e → (nat m).length ≤ 1000 → k + e ≤ 15000 → i + e ≤ 15000 → r03_often_1 (nat m) t (k : Int) (i : Int) = some ((k + ordB b m : Nat) : Int)
 | e, m, k, i, he, hl, hk, hi => by
  by_cases h0 : m = 0
  ·subst h0; rw [nat_zero, yOften0, ord_stop b 0 (.inl rfl)]; rfl
  ·match e with
   | 0 => simp at he; omega
   | e + 1 =>
    rw [r03_often_1_eq, cT (decide_eq_true (by omega)), decide_eq_false (fun e => h0 (nat_eq_nil.1 e)), show (!false) = true from rfl, r03_often_2_eq, cond_true, yDiv _ _ (by omega) (by omega), Option.bind_some, val_nat, ht, divmod, if_neg (by omega)]
    simp only
    by_cases hm : m % b = 0
    ·rw [hm, nat_zero, cF (by rfl), wS (by omega), wS (by omega), yOften b t ht htl hb e (m / b) (k + 1) (i + 1) (div_two hb he) (Nat.le_trans (len_mono (Nat.div_le_self _ _)) hl) (by omega) (by omega), ord_go b m h0 hb hm]
     congr 2
     omega
    ·rw [cT (by rw [decide_eq_false (fun e => hm (nat_eq_nil.1 e))]; rfl), ord_stop b m (.inr hm)]; rfl
theorem pow8 (k : Nat) : 256 ^ k = 2 ^ (8 * k) := by rw [show (256 : Nat) = 2 ^ 8 by decide, ← Nat.pow_mul]
theorem xTwos (a : List UInt8) (h : a.length ≤ 150) : dec_Twos a = some (((ordB 2 (val a) : Nat) : Int), ((ordB 5 (val a) : Nat) : Int)) := by
 have hl := nat_val_length a
 have hv := val_lt a
 rw [pow8] at hv
 have h2 := xOften 2 (by omega) (by omega) (8 * a.length) (val a) 0 hv (by omega) (by omega)
 have h5 := xOften 5 (by omega) (by omega) (8 * a.length) (val a) 0 hv (by omega) (by omega)
 rw [Nat.zero_add] at h2 h5
 have e2 : dec_often (nat (val a)) 2 = _ := (dec_often_eq _ _).trans h2
 have e5 : dec_often (nat (val a)) 5 = _ := (dec_often_eq _ _).trans h5
 rw [dec_Twos_eq, xTrim a (by omega), Option.bind_some, e2, Option.bind_some, e5]; rfl
theorem yTwos (a : List UInt8) (h : a.length ≤ 150) : r03_Twos a = some (((ordB 2 (val a) : Nat) : Int), ((ordB 5 (val a) : Nat) : Int)) := by
 have hl := nat_val_length a
 have hv := val_lt a
 rw [pow8] at hv
 have h2 := yOften 2 [2] rfl (by simp) (by omega) (8 * a.length) (val a) 0 0 hv (by omega) (by omega) (by omega)
 have h5 := yOften 5 [5] rfl (by simp) (by omega) (8 * a.length) (val a) 0 0 hv (by omega) (by omega) (by omega)
 rw [Nat.zero_add] at h2 h5
 have e2 : r03_often (nat (val a)) [2] = _ := (r03_often_eq _ _).trans h2
 have e5 : r03_often (nat (val a)) [5] = _ := (r03_often_eq _ _).trans h5
 rw [r03_Twos_eq, yTrim a (by omega), Option.bind_some, e2, Option.bind_some, e5]; rfl
theorem good_get {s : List UInt8} {i : Nat} (h : i < s.length) : s[i] = s.getD i 0 := by
 rw [List.getD_eq_getElem?_getD, List.getElem?_eq_getElem h]; rfl
end Go.Proofs.YtgnkkanhjghhfaaGreatDoor.D
namespace Go.Proofs.YtgnkkanhjghhfaaGreatDoor.D
open Go Go.Proofs.YtgnkkanhjghhfaaGreatDoor.K
open Go.Proofs.YtgnkkanhjghhfaaGreatDoor.P (nat val divmod small val_nat nat_zero nat_eq_nil nat_val_length nat_length_le len_mono val_lt nat_inj sgnv powR powV blen blen_bounds blen_zero nat_one)
open Go.Proofs.YtgnkkanhjghhfaaGreatDoor.Q (ok1 ok3 cmpQ gcdQ powQ bitsQ)
abbrev Wh := Bool × List UInt8
abbrev Rt := Bool × List UInt8 × List UInt8
theorem ok3_of {s : List UInt8} (h : s.length ≤ 1000) : ok3 s = true := Nat.ble_eq_true_of_le h
theorem gcdQ_eq (a b : List UInt8) (ha : a.length ≤ 1000) (hb : b.length ≤ 1000) : gcdQ (a, b) = some (nat (Nat.gcd (val a) (val b))) := by
 unfold gcdQ
 simp only
 rw [ok3_of ha, ok3_of hb]; rfl
theorem xGcd (a b : List UInt8) (ha : a.length ≤ 1000) (hb : b.length ≤ 1000) : divide_Gcd a b = some (nat (Nat.gcd (val a) (val b))) := (top_call ..).trans (gcdQ_eq a b ha hb)
theorem yGcd (a b : List UInt8) (ha : a.length ≤ 1000) (hb : b.length ≤ 1000) : r02_Gcd a b = some (nat (Nat.gcd (val a) (val b))) := (top_call ..).trans (gcdQ_eq a b ha hb)
theorem powQ_eq (a : List UInt8) (n : Int) (ha : a.length ≤ 1000) (hn : n ≤ 9000) : powQ (a, n) = some (powR (val a) n) := by
 unfold powQ
 simp only
 rw [ok3_of ha, decide_eq_true hn]; rfl
theorem xPow (a : List UInt8) (n : Int) (ha : a.length ≤ 1000) (hn : n ≤ 9000) : divide_Pow a n = some (powR (val a) n) := (top_call ..).trans (powQ_eq a n ha hn)
theorem yPow (a : List UInt8) (n : Int) (ha : a.length ≤ 1000) (hn : n ≤ 9000) : r02_Pow a n = some (powR (val a) n) := (top_call ..).trans (powQ_eq a n ha hn)
theorem nilD (n : Nat) : decide (nat n = []) = decide (n = 0) := decide_eq_decide.2 nat_eq_nil
def mkW (s : Bool) (n : Nat) : Wh := (s && !decide (n = 0), nat n)
theorem xWMake (s : Bool) (m : List UInt8) (h : m.length ≤ 1000000000) : whole_Make s m = some (mkW s (val m)) := by
 rw [whole_Make_eq, xTrim m h, Option.bind_some, mkW, nilD]
 cases s <;> rfl
theorem yWMake (s : Bool) (m : List UInt8) (h : m.length ≤ 1000000000) : r04_Make s m = some (mkW s (val m)) := by
 rw [r04_Make_eq, yTrim m h, Option.bind_some, mkW, nilD]
 cases s <;> rfl
theorem yWWell (x : Wh) (h : x.2.length ≤ 1000000000) : r04_well x = some (mkW x.1 (val x.2)) := by rw [r04_well_eq, yWMake _ _ h]; rfl
theorem mul_len (a b : List UInt8) : (nat (val a * val b)).length ≤ a.length + b.length := by
 have h1 := val_lt a
 have h2 := val_lt b
 exact nat_length_le (by rw [Nat.pow_add]; exact Nat.mul_lt_mul'' h1 h2)
theorem yWMul (x y : Wh) (hx : x.2.length ≤ 100000) (hy : y.2.length ≤ 100000) : r04_Mul x y = some (mkW (!(mkW x.1 (val x.2)).1 == (mkW y.1 (val y.2)).1) (val x.2 * val y.2)) := by
 have h1 := nat_val_length x.2
 have h2 := nat_val_length y.2
 have h3 := mul_len x.2 y.2
 rw [r04_Mul_eq, yWWell _ (by omega), Option.bind_some, yWWell _ (by omega), Option.bind_some]
 show (r01_Mul (nat (val x.2)) (nat (val y.2))).bind _ = _
 rw [yMul _ _ (by omega) (by omega), Option.bind_some, val_nat, val_nat, yWMake _ _ (by omega), val_nat]; rfl
end Go.Proofs.YtgnkkanhjghhfaaGreatDoor.D
namespace Go.Proofs.YtgnkkanhjghhfaaGreatDoor.D
open Go Go.Proofs.YtgnkkanhjghhfaaGreatDoor.K
open Go.Proofs.YtgnkkanhjghhfaaGreatDoor.P (nat val divmod small val_nat nat_zero nat_eq_nil nat_val_length nat_length_le len_mono val_lt nat_inj sgnv powR powV blen blen_bounds blen_zero nat_one mod_u64)
def tidy (s : List UInt8) : Bool := decide (s.length ≤ 32) && decide (nat (val s) = s)
def right (r : Rt) : Bool := tidy r.2.1 && (tidy r.2.2 && (!decide (r.2.2 = []) && cond (decide (r.2.1 = [])) (!r.1 && decide (r.2.2 = [1])) (decide (Nat.gcd (val r.2.1) (val r.2.2) = 1))))
theorem val1 : val [1] = 1 := rfl
theorem natOne (n : Nat) : decide (nat n = [1]) = decide (n = 1) := decide_eq_decide.2 (by rw [← nat_one, nat_inj])
theorem tidy_len {s : List UInt8} (h : tidy s = true) : s.length ≤ 32 := by
 unfold tidy at h
 simp at h
 exact h.1
theorem tidy_nat {s : List UInt8} (h : tidy s = true) : nat (val s) = s := by
 unfold tidy at h
 simp at h
 exact h.2
theorem xTidy (s : List UInt8) : rat_tidy s = some (tidy s) := by
 rw [rat_tidy_eq]
 by_cases h : s.length ≤ 32
 ·rw [cT (decide_eq_true (by omega)), xTrim s (by omega)]; simp [tidy, h]
 ·rw [cF (decide_eq_false (by omega))]; simp [tidy, h]
theorem xRight (r : Rt) : rat_Right r = some (right r) := by
 rw [rat_Right_eq, xTidy, Option.bind_some, xTidy, Option.bind_some]
 simp only [rat_Right_1_eq, right]
 cases h1 : tidy r.2.1 with
 | false => rfl
 | true =>
  cases h2 : tidy r.2.2 with
  | false => rfl
  | true =>
   have l1 := tidy_len h1
   have l2 := tidy_len h2
   rw [xGcd _ _ (by omega) (by omega), Option.bind_some, natOne]
   by_cases h3 : r.2.2 = []
   ·simp [h3]
   ·by_cases h4 : r.2.1 = []
    ·cases h6 : r.1 <;> simp [h3, h4]
    ·by_cases h5 : r.2.2 = [1]
     ·simp [h5, h4, val1]
     ·simp [h3, h4, h5]
theorem yRight (r : Rt) : r05_Right r = some (right r) := by
 rw [r05_Right_eq]
 simp only [r05_Right_1_eq, right]
 by_cases a1 : r.2.1.length ≤ 32
 ·by_cases a2 : r.2.2.length ≤ 32
  ·rw [cF (decide_eq_false (by omega)), cF (decide_eq_false (by omega)), yTrim _ (by omega), Option.bind_some, yTrim _ (by omega), Option.bind_some, yGcd _ _ (by omega) (by omega), Option.bind_some, natOne]
   by_cases a3 : r.2.2 = []
   ·simp [a3]
   ·by_cases a4 : nat (val r.2.1) = r.2.1
    ·by_cases a5 : nat (val r.2.2) = r.2.2
     ·by_cases a6 : r.2.1 = []
      ·have hv : val ([] : List UInt8) = 0 := rfl
       cases h6 : r.1 <;> simp [tidy, a2, a3, a5, a6, hv, nat_zero]
      ·simp [tidy, a1, a2, a3, a4, a5, a6]
     ·simp [tidy, a1, a2, a3, a4, a5]
    ·simp [tidy, a1, a2, a3, a4]
  ·rw [cF (decide_eq_false (by omega)), cT (decide_eq_true (by omega))]; simp [tidy, a2]
 ·rw [cT (decide_eq_true (by omega))]; simp [tidy, a1]
def well (r : Rt) : Rt := cond (right r) r (false, [], [1])
structure Fm (s : Bool) (n d : Nat) : Prop where
 nl : (nat n).length ≤ 32
 dl : (nat d).length ≤ 32
 pos : 0 < d
 co : Nat.gcd n d = 1
 z : n = 0 → s = false
theorem right_form {r : Rt} (h : right r = true) : ∃ s n d, r = (s, nat n, nat d) ∧ Fm s n d := by
 obtain ⟨s, a, b⟩ := r
 unfold right at h
 simp only [Bool.and_eq_true] at h
 obtain ⟨h1, h2, h3, h4⟩ := h
 have e1 := tidy_nat h1
 have e2 := tidy_nat h2
 have hb : b ≠ [] := by simpa using h3
 have hd : val b ≠ 0 := fun e => hb (by rw [← e2, e, nat_zero])
 refine ⟨s, val a, val b, by rw [e1, e2], ⟨by rw [e1]; exact tidy_len h1, by rw [e2]; exact tidy_len h2, by omega, ?_, ?_⟩⟩
 ·by_cases h0 : a = []
  ·rw [decide_eq_true h0, cond_true] at h4
   simp only [Bool.and_eq_true, decide_eq_true_eq] at h4
   rw [h0, h4.2]; rfl
  ·rw [decide_eq_false h0, cond_false] at h4
   exact of_decide_eq_true h4
 ·intro hz
  have h0 : a = [] := by rw [← e1, hz, nat_zero]
  rw [decide_eq_true h0, cond_true] at h4
  simp only [Bool.and_eq_true, Bool.not_eq_true'] at h4
  exact h4.1
theorem tidy_of {n : Nat} (h : (nat n).length ≤ 32) : tidy (nat n) = true := by
 unfold tidy
 rw [val_nat, decide_eq_true h, decide_eq_true rfl]; rfl
theorem Fm.right {s : Bool} {n d : Nat} (h : Fm s n d) : right (s, nat n, nat d) = true := by
 unfold D.right
 have hd : decide (nat d = []) = false := decide_eq_false fun e => by have := nat_eq_nil.1 e; have := h.pos; omega
 simp only [tidy_of h.nl, tidy_of h.dl, hd, nilD, natOne, val_nat]
 by_cases h0 : n = 0
 ·have hs := h.z h0
  have hc := h.co
  rw [h0, Nat.gcd_zero_left] at hc
  rw [decide_eq_true h0, hs, decide_eq_true hc]; rfl
 ·rw [decide_eq_false h0, decide_eq_true h.co]; rfl
theorem Fm.zero : Fm false 0 1 := ⟨by rw [nat_zero]; simp, by rw [nat_one]; simp, by omega, rfl, fun _ => rfl⟩
theorem well_form (r : Rt) : ∃ s n d, well r = (s, nat n, nat d) ∧ Fm s n d := by
 unfold well
 cases h : right r with
 | true => exact right_form h
 | false => exact ⟨false, 0, 1, by rw [nat_zero, nat_one]; rfl, .zero⟩
theorem Fm.well {s : Bool} {n d : Nat} (h : Fm s n d) : well (s, nat n, nat d) = (s, nat n, nat d) := by unfold D.well; rw [h.right]; rfl
theorem yWell (r : Rt) : r05_Well r = some (well r) := by
 rw [r05_Well_eq, yRight, Option.bind_some, well, r05_Zero_eq]
 cases right r <;> rfl
theorem yLow {r : Rt} {s : Bool} {n d : Nat} (e : well r = (s, nat n, nat d)) (h : Fm s n d) : r05_Low r = some (false, nat d) := by
 have := h.dl
 rw [r05_Low_eq, yWell, Option.bind_some, e]
 show (r04_Make false (nat d)).bind _ = _
 rw [yWMake _ _ (by omega), val_nat]; rfl
theorem pow_half {k b n : Nat} (h : k < b) (h2 : 2 ^ b ≤ 2 * n) : 2 ^ k ≤ n := by
 have h3 : 2 ^ (k + 1) ≤ 2 ^ b := Nat.pow_le_pow_right (by decide) h
 rw [Nat.pow_succ] at h3
 generalize 2 ^ k = X at h3 ⊢
 omega
def ofI (n : Int) : Rt := (decide (n < 0), nat n.natAbs, [1])
theorem u64_neg {n : Int} (h : n < 0) (h0 : -9223372036854775808 ≤ n) : IntKind.u64.wrap (0 - IntKind.u64.wrap n) = ((n.natAbs : Nat) : Int) := by rw [mod_u64, mod_u64]; omega
theorem u64_pos {n : Int} (h : ¬ n < 0) (h1 : n ≤ 9223372036854775807) : IntKind.u64.wrap n = ((n.natAbs : Nat) : Int) := by rw [mod_u64]; omega
theorem abs_len (n : Int) (h0 : -9223372036854775808 ≤ n) (h1 : n ≤ 9223372036854775807) : (nat n.natAbs).length ≤ 8 := nat_length_le (by show n.natAbs < 18446744073709551616; omega)
theorem xWOf (n : Int) (h0 : -9223372036854775808 ≤ n) (h1 : n ≤ 9223372036854775807) : whole_Of n = some (decide (n < 0), nat n.natAbs) := by
 have hl := abs_len n h0 h1
 rw [whole_Of_eq]
 by_cases h : n < 0
 ·rw [cT (decide_eq_true h), u64_neg h h0, xOf _ (by omega), Option.bind_some, xWMake _ _ (by omega), Option.bind_some, val_nat, mkW, decide_eq_true h, decide_eq_false (by omega)]; rfl
 ·rw [cF (decide_eq_false h), u64_pos h h1, xOf _ (by omega), Option.bind_some, xWMake _ _ (by omega), Option.bind_some, val_nat, mkW, decide_eq_false h]; rfl
theorem xROf (n : Int) (h0 : -9223372036854775808 ≤ n) (h1 : n ≤ 9223372036854775807) : rat_Of n = some (ofI n) := by rw [rat_Of_eq, xWOf n h0 h1]; rfl
theorem Fm.of {n : Int} (h0 : -9223372036854775808 ≤ n) (h1 : n ≤ 9223372036854775807) : Fm (decide (n < 0)) n.natAbs 1 := by
 have := abs_len n h0 h1
 exact ⟨by omega, by rw [nat_one]; simp, by omega, Nat.gcd_one_right _, fun h => decide_eq_false (by omega)⟩
def negR (r : Rt) : Rt := (!(well r).1 && !decide ((well r).2.1 = []), (well r).2)
theorem Fm.neg {s : Bool} {n d : Nat} (h : Fm s n d) : negR (s, nat n, nat d) = (!s && !decide (n = 0), nat n, nat d) := by unfold negR; rw [h.well, nilD]
end Go.Proofs.YtgnkkanhjghhfaaGreatDoor.D
namespace Go.Proofs.YtgnkkanhjghhfaaGreatDoor.D
open Go Go.Proofs.YtgnkkanhjghhfaaGreatDoor.K
open Go.Proofs.YtgnkkanhjghhfaaGreatDoor.P (nat val divmod small val_nat nat_zero nat_eq_nil nat_val_length nat_length_le len_mono val_lt nat_inj sgnv powR powV nat_one wS nat_ten_len inC dv good dig dig_le dv_nil dv_snoc dv_append dv_cons dv_lt decT decT_good decT_dv decT_ne decT_len)
def pos (c : UInt8) : List UInt8 → Option Nat
 | [] => none
 | b :: s => if b = c then some 0 else (pos c s).map (· + 1)
theorem getD_drop {s : List UInt8} {i : Nat} (h : i < s.length) : s.drop i = s.getD i 0 :: s.drop (i + 1) := by rw [List.drop_eq_getElem_cons h, good_get h]
theorem pow_small {b : Nat} (hb : b < 256) (n : Nat) : (nat (b ^ n)).length ≤ n + 1 := by
 rcases Nat.eq_zero_or_pos n with h | h
 ·subst h; rw [Nat.pow_zero, nat_one]; simp
 ·exact Nat.le_trans (nat_length_le (Nat.pow_lt_pow_left hb (by omega))) (by omega)
theorem powR_small {b n : Nat} (hb : 2 ≤ b) (hb2 : b < 256) (hn : n ≤ 1000) : powR b (n : Int) = (nat (b ^ n), 0) := by
 unfold powR
 rw [if_neg (by omega)]
 by_cases h : n = 0
 ·subst h; rw [if_pos (by rfl), Nat.pow_zero, nat_one]
 ·have := pow_small hb2 n
  rw [if_neg (by omega), if_neg (by omega), powV, Int.toNat_natCast, if_neg (by omega)]
theorem xPower {b n : Nat} (hb : 2 ≤ b) (hb2 : b < 256) (hn : n ≤ 1000) : numtext_power (b : Int) (n : Int) = some (nat (b ^ n)) := by
 have hl : (nat b).length ≤ 1 := nat_length_le (by omega)
 rw [numtext_power_eq, xOf _ (by omega), Option.bind_some, xPow _ _ (by omega) (by omega), Option.bind_some, val_nat, powR_small hb hb2 hn]; rfl
theorem yPower {b n : Nat} {t : List UInt8} (ht : val t = b) (htl : t.length ≤ 10) (hb : 2 ≤ b) (hb2 : b < 256) (hn : n ≤ 1000) : r07_power t (n : Int) = some (nat (b ^ n)) := by
 rw [r07_power_eq, yPow _ _ (by omega) (by omega), Option.bind_some, ht, powR_small hb hb2 hn]
theorem ord_dvd (b : Nat) (hb : 2 ≤ b) : ∀ (m : Nat), m ≠ 0 → b ^ ordB b m ∣ m := by
 intro m
 induction m using Nat.strongRecOn with
 | _ m ih =>
  intro h0
  by_cases h : m % b = 0
  ·have hd : m / b < m := Nat.div_lt_self (by omega) (by omega)
   have hm : m = b * (m / b) := by have := Nat.div_add_mod m b; omega
   have h1 : m / b ≠ 0 := fun e => by rw [e, Nat.mul_zero] at hm; exact h0 hm
   rw [ord_go b m h0 hb h, Nat.pow_succ, Nat.mul_comm]
   conv => rhs; rw [hm]
   exact Nat.mul_dvd_mul_left b (ih _ hd h1)
  ·rw [ord_stop b m (.inr h), Nat.pow_zero]; exact Nat.one_dvd m
theorem ord_le (b m : Nat) (hb : 2 ≤ b) (h0 : m ≠ 0) (hl : (nat m).length ≤ 32) : ordB b m ≤ 256 := by
 have h1 := Nat.le_of_dvd (by omega) (ord_dvd b hb m h0)
 have h2 : 2 ^ ordB b m ≤ b ^ ordB b m := Nat.pow_le_pow_left hb _
 have h3 := val_lt (nat m)
 rw [val_nat, pow8] at h3
 have h4 : 2 ^ (8 * (nat m).length) ≤ 2 ^ 256 := Nat.pow_le_pow_right (by decide) (by omega)
 rcases Nat.lt_or_ge 256 (ordB b m) with h | h
 ·have h5 := pow_half h (Nat.le_trans (Nat.le_trans h2 h1) (show m ≤ 2 * m by omega))
  generalize (2 : Nat) ^ 256 = X at h4 h5
  have h6 : m < X := by omega
  omega
 ·exact h
def endsN (d : Nat) : Nat × Bool := if 2 ^ ordB 2 d * 5 ^ ordB 5 d = d then (max (ordB 2 d) (ordB 5 d), true) else (0, false)
theorem xEnds {r : Rt} {s : Bool} {n d : Nat} (e : well r = (s, nat n, nat d)) (f : Fm s n d) : numtext_Ends r = some (((endsN d).1 : Int), (endsN d).2) := by
 have h0 := f.pos
 have hl := f.dl
 have h2 := ord_le 2 d (by omega) (by omega) hl
 have h5 := ord_le 5 d (by omega) (by omega) hl
 have hw : numtext_well r = some (well r) := by
  rw [numtext_well_eq, xRight, Option.bind_some, xROf 0 (by omega) (by omega), Option.bind_some, well, show ofI 0 = (false, [], [1]) by unfold ofI; rw [Int.natAbs_zero, nat_zero]; rfl]
  cases right r <;> rfl
 have l2 := pow_small (b := 2) (by omega) (ordB 2 d)
 have l5 := pow_small (b := 5) (by omega) (ordB 5 d)
 rw [numtext_Ends_eq, hw, Option.bind_some, e, xTwos _ (by simp only; omega), Option.bind_some]
 simp only [val_nat]
 rw [show numtext_power 2 ((ordB 2 d : Nat) : Int) = _ from xPower (b := 2) (by omega) (by omega) (by omega), Option.bind_some, show numtext_power 5 ((ordB 5 d : Nat) : Int) = _ from xPower (b := 5) (by omega) (by omega) (by omega), Option.bind_some, xMul _ _ (by omega) (by omega), Option.bind_some, val_nat, val_nat, endsN]
 by_cases h : 2 ^ ordB 2 d * 5 ^ ordB 5 d = d
 ·rw [h, decide_eq_true rfl, if_pos rfl]; simp only [Bool.not_true, cond_false]; congr 2; omega
 ·rw [decide_eq_false (fun e => h (nat_inj.1 e)), if_neg h]; rfl
theorem yEnds {r : Rt} {s : Bool} {n d : Nat} (e : well r = (s, nat n, nat d)) (f : Fm s n d) : r07_Ends r = some (((endsN d).1 : Int), (endsN d).2) := by
 have h0 := f.pos
 have hl := f.dl
 have h2 := ord_le 2 d (by omega) (by omega) hl
 have h5 := ord_le 5 d (by omega) (by omega) hl
 have l2 := pow_small (b := 2) (by omega) (ordB 2 d)
 have l5 := pow_small (b := 5) (by omega) (ordB 5 d)
 rw [r07_Ends_eq, yLow e f, Option.bind_some, yTwos _ (by simp only; omega), Option.bind_some]
 simp only [val_nat]
 rw [yPower (b := 2) (t := [2]) rfl (by simp) (by omega) (by omega) (by omega), Option.bind_some, yWMake _ _ (by omega), Option.bind_some, yPower (b := 5) (t := [5]) rfl (by simp) (by omega) (by omega) (by omega), Option.bind_some, yWMake _ _ (by omega), Option.bind_some,
  yWMul _ _ (by show (nat _).length ≤ _; rw [val_nat]; omega) (by show (nat _).length ≤ _; rw [val_nat]; omega), Option.bind_some]
 show cond (!decide (nat (val (nat (val (nat (2 ^ ordB 2 d)))) * val (nat (val (nat (5 ^ ordB 5 d))))) = nat d)) _ _ = _
 simp only [val_nat, endsN]
 by_cases h : 2 ^ ordB 2 d * 5 ^ ordB 5 d = d
 ·rw [h, decide_eq_true rfl, if_pos rfl]; simp only [Bool.not_true, cond_false]; congr 2; omega
 ·rw [decide_eq_false (fun e => h (nat_inj.1 e)), if_neg h]; rfl
end Go.Proofs.YtgnkkanhjghhfaaGreatDoor.D
namespace Go.Proofs.YtgnkkanhjghhfaaGreatDoor.D
open Go Go.Proofs.YtgnkkanhjghhfaaGreatDoor.K
open Go.Proofs.YtgnkkanhjghhfaaGreatDoor.P (nat val divmod small val_nat nat_zero nat_eq_nil nat_val_length nat_length_le len_mono val_lt nat_inj sgnv powR powV nat_one wS wA wD nat_ten_len inC ten ten_len decT decT_len decT_ne decT_good decT_dv dv good dig dig_le dv_nil dv_snoc dv_append dv_cons dv_lt)
def ptN (n : Nat) (s : List UInt8) : List UInt8 :=
 if n = 0 then s else (List.replicate (n + 1 - s.length) 48 ++ s).take ((List.replicate (n + 1 - s.length) 48 ++ s).length - n) ++ [46] ++ (List.replicate (n + 1 - s.length) 48 ++ s).drop ((List.replicate (n + 1 - s.length) 48 ++ s).length - n)
def textF (s : Bool) (n d : Nat) : List UInt8 :=
 cond s [45] [] ++ cond ((endsN d).2 && decide ((endsN d).1 ≤ 20)) (ptN (endsN d).1 (decT (n * 10 ^ (endsN d).1 / d))) (decT n ++ [47] ++ decT d)
end Go.Proofs.YtgnkkanhjghhfaaGreatDoor.D
namespace Go.Proofs.YtgnkkanhjghhfaaGreatDoor.D
open Go Go.Proofs.YtgnkkanhjghhfaaGreatDoor.K
open Go.Proofs.YtgnkkanhjghhfaaGreatDoor.P (nat val divmod small val_nat nat_zero nat_eq_nil nat_val_length nat_length_le len_mono val_lt nat_inj sgnv powR powV nat_one wS wA wD nat_ten_len inC ten ten_len decT decT_len decT_ne decT_good decT_dv dv_lt dv good dig dig_le dv_nil dv_snoc dv_append dv_cons)
def z0 : Rt := (false, [], [])
end Go.Proofs.YtgnkkanhjghhfaaGreatDoor.D
namespace Go.Proofs.YtgnkkanhjghhfaaGreatDoor.K
open Go
end Go.Proofs.YtgnkkanhjghhfaaGreatDoor.K
namespace Go.Proofs.YtgnkkanhjghhfaaGreatDoor.D
open Go Go.Proofs.YtgnkkanhjghhfaaGreatDoor.K
open Go.Proofs.YtgnkkanhjghhfaaGreatDoor.P (nat val val_nat nat_zero nat_eq_nil nat_inj nat_one wS inC dv good dig dig_le decT decT_good decT_ne)
abbrev Vl := Int × (Bool × List UInt8 × List UInt8) × List UInt8 × Bool × Int
def blank : Vl := (0, (false, [], []), [], false, 0)
def pl1 (b : UInt8) : Bool := decide (32 ≤ b.toNat) && decide (b.toNat ≤ 126)
def plainV (s : List UInt8) : Bool := s.all pl1 && decide (s.length ≤ 200)
theorem all_drop {p : UInt8 → Bool} {s : List UInt8} {i : Nat} (h : i < s.length) : (s.drop i).all p = (p (s.getD i 0) && (s.drop (i + 1)).all p) := by rw [getD_drop h, List.all_cons]
theorem xPlain1 (s : List UInt8) (hs : s.length ≤ 9223372036854775807) : ∀ (m i : Nat), i + m = s.length → value_plain_1 s (s.map fun b => (b.toNat : Int)) ((s.map fun b => (b.toNat : Int)).length : Int) (i : Int) = some ((s.drop i).all pl1 && decide (s.length ≤ 200))
 | 0, i, h => by
  rw [value_plain_1_eq, cF (decide_eq_false (by rw [List.length_map]; omega)), List.drop_of_length_le (by omega)]
  exact congrArg some (decide_eq_decide.2 (by omega))
 | m + 1, i, h => by
  have hi : i < s.length := by omega
  have hg : (s.map fun b => (b.toNat : Int)).getD (i : Int).toNat 0 = ((s.getD i 0).toNat : Int) := by simp [List.getD, hi]
  have next : value_plain_2 s (s.map fun b => (b.toNat : Int)) ((s.map fun b => (b.toNat : Int)).length : Int) (i : Int) false = some ((s.drop (i + 1)).all pl1 && decide (s.length ≤ 200)) := by
   rw [value_plain_2_eq, cond_false, wS (by omega)]; exact xPlain1 s hs m (i + 1) (by omega)
  have stop : value_plain_2 s (s.map fun b => (b.toNat : Int)) ((s.map fun b => (b.toNat : Int)).length : Int) (i : Int) true = some false := by rw [value_plain_2_eq, cond_true]
  rw [value_plain_1_eq, cT (decide_eq_true (by rw [List.length_map]; omega)), cT (by rw [List.length_map]; exact ix hi), hg, all_drop hi]
  generalize s.getD i 0 = c
  by_cases h1 : c.toNat < 32
  ·rw [cT (decide_eq_true (by omega)), stop, show pl1 c = false by unfold pl1; simp; omega]; rfl
  ·rw [cF (decide_eq_false (by omega))]
   by_cases h2 : c.toNat > 126
   ·rw [decide_eq_true (show (c.toNat : Int) > 126 by omega), stop, show pl1 c = false by unfold pl1; simp; omega]; rfl
   ·rw [decide_eq_false (show ¬ (c.toNat : Int) > 126 by omega), next, show pl1 c = true by unfold pl1; simp; omega]; rfl
theorem xPlain (s : List UInt8) (hs : s.length ≤ 9223372036854775807) : value_plain s = some (plainV s) := (value_plain_eq s).trans (xPlain1 s hs s.length 0 (Nat.zero_add _))
theorem yPlain1 (s : List UInt8) (hs : s.length ≤ 200) : ∀ (m i : Nat), i + m = s.length → r08_Plain_1 s (i : Int) = some ((s.drop i).all pl1)
 | 0, i, h => by
  rw [r08_Plain_1_eq, cF (decide_eq_false (by omega)), List.drop_of_length_le (by omega)]; rfl
 | m + 1, i, h => by
  have hi : i < s.length := by omega
  have next : r08_Plain_2 s (i : Int) false = some ((s.drop (i + 1)).all pl1) := by
   rw [r08_Plain_2_eq, cond_false, wS (by omega)]; exact yPlain1 s hs m (i + 1) (by omega)
  have stop : r08_Plain_2 s (i : Int) true = some false := by rw [r08_Plain_2_eq, cond_true]
  rw [r08_Plain_1_eq, cT (decide_eq_true (by omega)), cT (ix hi), cT (ix hi), Int.toNat_natCast, all_drop hi]
  generalize s.getD i 0 = c
  by_cases h1 : c.toNat < 32
  ·rw [cT (decide_eq_true (by omega)), stop, show pl1 c = false by unfold pl1; simp; omega]; rfl
  ·rw [cF (decide_eq_false (by omega))]
   by_cases h2 : c.toNat > 126
   ·rw [decide_eq_true (show (c.toNat : Int) > 126 by omega), stop, show pl1 c = false by unfold pl1; simp; omega]; rfl
   ·rw [decide_eq_false (show ¬ (c.toNat : Int) > 126 by omega), next, show pl1 c = true by unfold pl1; simp; omega]; rfl
theorem yPlain (s : List UInt8) : r08_Plain s = some (plainV s) := by
 rw [r08_Plain_eq]
 by_cases h : s.length ≤ 200
 ·have := yPlain1 s h s.length 0 (Nat.zero_add _)
  rw [cF (decide_eq_false (by omega)), plainV, decide_eq_true h, Bool.and_true]; exact this
 ·rw [cT (decide_eq_true (by omega)), plainV, decide_eq_false h, Bool.and_false]
def namesL : List (List UInt8) := [[], [35, 68, 73, 86, 47, 48, 33], [35, 86, 65, 76, 85, 69, 33], [35, 82, 69, 70, 33], [35, 78, 65, 77, 69, 63], [35, 78, 85, 77, 33], [35, 78, 47, 65], [35, 67, 73, 82, 67, 33]]
def isF (n : Int) : Bool := decide (1 ≤ n) && decide (n ≤ 7)
def nameV (n : Int) : List UInt8 := cond (isF n) (namesL.getD n.toNat []) []
theorem isF_cases {n : Int} (h : isF n = true) : n = 1 ∨ n = 2 ∨ n = 3 ∨ n = 4 ∨ n = 5 ∨ n = 6 ∨ n = 7 := by
 unfold isF at h
 simp at h
 omega
theorem xName (n : Int) : value_Name n = some (nameV n) := by
 rw [value_Name_eq, value_Name_1_eq, nameV]
 by_cases h0 : n < 0
 ·rw [cT (decide_eq_true h0), value_Name_2_eq, show isF n = false by unfold isF; simp; omega]; rfl
 ·rw [cF (decide_eq_false h0), value_Name_2_eq]
  by_cases h8 : n ≥ 8
  ·rw [cT (decide_eq_true h8), show isF n = false by unfold isF; simp; omega]; rfl
  ·rw [cF (decide_eq_false h8), cT (by simp; omega)]
   by_cases hz : n = 0
   ·subst hz; rfl
   ·rw [show isF n = true by unfold isF; simp; omega]; rfl
def vFault (n : Int) : Vl := (4, (false, [], []), [], false, cond (isF n) n 2)
def vText (s : List UInt8) : Vl := cond (plainV s) (2, (false, [], []), s, false, 0) (vFault 2)
theorem nameV_nil (n : Int) : decide (nameV n = []) = !isF n := by
 unfold nameV
 cases hf : isF n with
 | true => rcases isF_cases hf with h | h | h | h | h | h | h <;> subst h <;> rfl
 | false => rfl
theorem xvFault (n : Int) : value_Fault n = some (vFault n) := by
 rw [value_Fault_eq, xName, Option.bind_some, nameV_nil, vFault]
 simp only [value_Fault_1_eq]
 cases isF n <;> rfl
theorem xvText (s : List UInt8) (hs : s.length ≤ 9223372036854775807) : value_Text s = some (vText s) := by
 rw [value_Text_eq, xPlain s hs, Option.bind_some, xvFault, Option.bind_some, vText]
 cases plainV s <;> rfl
def tTRUE : List UInt8 := [84, 82, 85, 69]
def tFALSE : List UInt8 := [70, 65, 76, 83, 69]
end Go.Proofs.YtgnkkanhjghhfaaGreatDoor.D
namespace Go.Proofs.YtgnkkanhjghhfaaGreatDoor.F
open Go Go.Proofs.YtgnkkanhjghhfaaGreatDoor.K
abbrev Rf := List UInt8 × Int × Int × Bool × Bool
theorem wS {i : Nat} (h : i + 1 ≤ 9223372036854775807) : IntKind.i64.wrap ((i : Int) + 1) = ((i + 1 : Nat) : Int) := wrap64 (by omega) (by omega)
theorem getD_drop {s : List UInt8} {i : Nat} (h : i < s.length) : s.drop i = s.getD i 0 :: s.drop (i + 1) := by
 rw [List.drop_eq_getElem_cons h, List.getD_eq_getElem?_getD, List.getElem?_eq_getElem h]; rfl
theorem all_drop {p : UInt8 → Bool} {s : List UInt8} {i : Nat} (h : i < s.length) : (s.drop i).all p = (p (s.getD i 0) && (s.drop (i + 1)).all p) := by rw [getD_drop h, List.all_cons]
theorem map_get {s : List UInt8} {i : Nat} (h : i < s.length) : (s.map fun b => (b.toNat : Int)).getD (i : Int).toNat 0 = ((s.getD i 0).toNat : Int) := by simp [List.getD, h]
def lt (b : UInt8) : Bool := (decide (65 ≤ b.toNat) && decide (b.toNat ≤ 90)) || (decide (97 ≤ b.toNat) && decide (b.toNat ≤ 122))
def dgt (b : UInt8) : Bool := decide (48 ≤ b.toNat) && decide (b.toNat ≤ 57)
def cap (b : UInt8) : Bool := decide (65 ≤ b.toNat) && decide (b.toNat ≤ 90)
theorem ge_d (b : UInt8) (n : Nat) : decide ((b.toNat : Int) ≥ (n : Int)) = decide (n ≤ b.toNat) := decide_eq_decide.2 (by omega)
theorem le_d (b : UInt8) (n : Nat) : decide ((b.toNat : Int) ≤ (n : Int)) = decide (b.toNat ≤ n) := decide_eq_decide.2 (by omega)
theorem xLt (b : UInt8) : ref_letter (b.toNat : Int) = some (lt b) := by
 rw [ref_letter_eq, lt, show decide ((b.toNat : Int) ≥ 65) = _ from ge_d b 65, show decide ((b.toNat : Int) ≤ 90) = _ from le_d b 90, show decide ((b.toNat : Int) ≥ 97) = _ from ge_d b 97, show decide ((b.toNat : Int) ≤ 122) = _ from le_d b 122]
 cases decide (65 ≤ b.toNat) <;> cases decide (b.toNat ≤ 90) <;> cases decide (97 ≤ b.toNat) <;> cases decide (b.toNat ≤ 122) <;> rfl
theorem yLt (b : UInt8) : r11_Letter (b.toNat : Int) = some (lt b) := by
 rw [r11_Letter_eq, lt, show decide ((b.toNat : Int) ≥ 65) = _ from ge_d b 65, show decide ((b.toNat : Int) ≤ 90) = _ from le_d b 90, show decide ((b.toNat : Int) ≥ 97) = _ from ge_d b 97, show decide ((b.toNat : Int) ≤ 122) = _ from le_d b 122]
 cases decide (65 ≤ b.toNat) <;> cases decide (b.toNat ≤ 90) <;> cases decide (97 ≤ b.toNat) <;> cases decide (b.toNat ≤ 122) <;> rfl
theorem xDgt (b : UInt8) : ref_digit (b.toNat : Int) = some (dgt b) := by
 rw [ref_digit_eq, dgt, show decide ((b.toNat : Int) ≥ 48) = _ from ge_d b 48, show decide ((b.toNat : Int) ≤ 57) = _ from le_d b 57]
 cases decide (48 ≤ b.toNat) <;> rfl
theorem yDgt (b : UInt8) : r11_Digit (b.toNat : Int) = some (dgt b) := by
 rw [r11_Digit_eq, dgt, show decide ((b.toNat : Int) ≥ 48) = _ from ge_d b 48, show decide ((b.toNat : Int) ≤ 57) = _ from le_d b 57]
 cases decide (48 ≤ b.toNat) <;> rfl
def up (b : UInt8) : UInt8 := if 97 ≤ b.toNat ∧ b.toNat ≤ 122 then UInt8.ofNat (b.toNat - 32) else b
theorem up_small {b : UInt8} (h : 97 ≤ b.toNat ∧ b.toNat ≤ 122) : (up b).toNat = b.toNat - 32 := by
 rw [up, if_pos h]
 exact UInt8.toNat_ofNat_of_lt' (by show _ < 256; omega)
theorem up_other {b : UInt8} (h : ¬ (97 ≤ b.toNat ∧ b.toNat ≤ 122)) : up b = b := by rw [up, if_neg h]
theorem up_lt (b : UInt8) : lt (up b) = cap (up b) := by
 unfold lt cap
 by_cases h : 97 ≤ b.toNat ∧ b.toNat ≤ 122
 ·have := up_small h
  rw [decide_eq_false (show ¬ 97 ≤ (up b).toNat by omega)]; simp
 ·rw [up_other h]
  have : (decide (97 ≤ b.toNat) && decide (b.toNat ≤ 122)) = false := by simp; omega
  rw [this, Bool.or_false]
theorem bytes_back (t : List UInt8) : bytesOf (t.map fun b => ((up b).toNat : Int)) = t.map up := by
 unfold bytesOf
 rw [List.map_map]
 refine List.map_congr_left fun b _ => ?_
 simp
theorem mid_get (A : List Int) (x : Int) (R : List Int) : (A ++ x :: R).getD A.length 0 = x := by simp [List.getD]
theorem mid_set (A : List Int) (x y : Int) (R : List Int) : (A ++ x :: R).set A.length y = A ++ y :: R := by simp
theorem inA {A R : List Int} {x : Int} : (decide (0 ≤ (A.length : Int)) && decide ((A.length : Int) < ((A ++ x :: R).length : Int))) = true := by simp; omega
theorem xCap1 : ∀ (t : List UInt8) (A : List Int) (n : Nat), n = A.length + t.length → n ≤ 9223372036854775807 → ref_capital_1 (n : Int) (A.length : Int) (A ++ t.map fun b => (b.toNat : Int)) = some (bytesOf (A ++ t.map fun b => ((up b).toNat : Int)))
 | [], A, n, hn, _ => by
  rw [ref_capital_1_eq, cF (decide_eq_false (by simp at hn; omega))]; rfl
 | c :: t, A, n, hn, hb => by
  simp only [List.length_cons] at hn
  have h3 : ∀ y : Int, ref_capital_3 (n : Int) (A.length : Int) (A ++ y :: t.map fun b => (b.toNat : Int)) = some (bytesOf ((A ++ [y]) ++ t.map fun b => ((up b).toNat : Int))) := by
   intro y
   have := xCap1 t (A ++ [y]) n (by simp; omega) hb
   rw [ref_capital_3_eq, wS (by omega)]
   simpa using this
  rw [ref_capital_1_eq, cT (decide_eq_true (by omega)), List.map_cons, cT inA, Int.toNat_natCast, mid_get, show decide ((c.toNat : Int) ≥ 97) = _ from ge_d c 97, show decide ((c.toNat : Int) ≤ 122) = _ from le_d c 122]
  simp only [ref_capital_2_eq]
  by_cases h : 97 ≤ c.toNat ∧ c.toNat ≤ 122
  ·have e : IntKind.u8.wrap (IntKind.u8.wrap ((c.toNat : Int) - 97) + 65) = ((up c).toNat : Int) := by
    rw [up_small h, wrapU8 (n := (c.toNat : Int) - 97) (by omega) (by omega), wrapU8 (by omega) (by omega)]; omega
   rw [decide_eq_true h.1, decide_eq_true h.2, cond_true, cond_true, cT inA, Int.toNat_natCast, mid_set, e, h3]
   simp
  ·have : up c = c := up_other h
   rw [List.map_cons, this]
   by_cases h1 : 97 ≤ c.toNat
   ·rw [decide_eq_true h1, decide_eq_false (show ¬ c.toNat ≤ 122 by omega), cond_true, cond_false, h3]; simp
   ·rw [decide_eq_false h1, cond_false, cond_false, h3]; simp
theorem xCapital (s : List UInt8) (hs : s.length ≤ 9223372036854775807) : ref_capital s = some (s.map up) := by
 rw [ref_capital_eq]
 have := xCap1 s [] s.length (by simp) hs
 rw [List.nil_append, List.nil_append, bytes_back] at this
 rw [List.length_map]
 exact this
theorem yCap1 : ∀ (t : List UInt8) (A : List Int), A.length + t.length ≤ 9223372036854775807 → r11_upper_1 (A.length : Int) (A ++ t.map fun b => (b.toNat : Int)) = some (bytesOf (A ++ t.map fun b => ((up b).toNat : Int)))
 | [], A, _ => by
  rw [r11_upper_1_eq, cF (decide_eq_false (by simp))]; rfl
 | c :: t, A, hb => by
  simp only [List.length_cons] at hb
  have h3 : ∀ y : Int, r11_upper_3 (A.length : Int) (A ++ y :: t.map fun b => (b.toNat : Int)) = some (bytesOf ((A ++ [y]) ++ t.map fun b => ((up b).toNat : Int))) := by
   intro y
   have := yCap1 t (A ++ [y]) (by simp; omega)
   rw [r11_upper_3_eq, wS (by omega)]
   simpa using this
  rw [r11_upper_1_eq, cT (decide_eq_true (by simp; omega)), List.map_cons, cT inA, cT inA, Int.toNat_natCast, mid_get, show decide ((c.toNat : Int) ≥ 97) = _ from ge_d c 97, show decide ((c.toNat : Int) ≤ 122) = _ from le_d c 122]
  simp only [r11_upper_2_eq]
  by_cases h : 97 ≤ c.toNat ∧ c.toNat ≤ 122
  ·have e : IntKind.u8.wrap ((c.toNat : Int) - 32) = ((up c).toNat : Int) := by
    rw [up_small h, wrapU8 (by omega) (by omega)]; omega
   rw [decide_eq_true h.1, decide_eq_true h.2, cond_true, cond_true, cT inA, cT inA, Int.toNat_natCast, mid_get, mid_set, e, h3]
   simp
  ·have : up c = c := up_other h
   rw [List.map_cons, this]
   by_cases h1 : 97 ≤ c.toNat
   ·rw [decide_eq_true h1, decide_eq_false (show ¬ c.toNat ≤ 122 by omega), cond_true, cond_false, h3]; simp
   ·rw [decide_eq_false h1, cond_false, cond_false, h3]; simp
theorem yCapital (s : List UInt8) (hs : s.length ≤ 9223372036854775807) : r11_upper s = some (s.map up) := by
 rw [r11_upper_eq]
 have := yCap1 s [] (by simpa using hs)
 rw [List.nil_append, List.nil_append, bytes_back] at this
 exact this
def lead (p : UInt8 → Bool) (s : List UInt8) : Nat := (s.takeWhile p).length
theorem lead_le (p : UInt8 → Bool) (s : List UInt8) : lead p s ≤ s.length := by
 unfold lead
 induction s with
 | nil => simp
 | cons b s ih => simp only [List.takeWhile_cons]; split <;> simp <;> omega
theorem lead_drop {p : UInt8 → Bool} {s : List UInt8} {i : Nat} (h : i < s.length) : lead p (s.drop i) = if p (s.getD i 0) = true then lead p (s.drop (i + 1)) + 1 else 0 := by
 unfold lead
 rw [getD_drop h, List.takeWhile_cons]
 split <;> simp
def addrR (s : List UInt8) : Bool := (s.drop (lead cap s)).all dgt && (decide (1 ≤ lead cap s) && (decide (lead cap s ≤ 2) && (decide (lead cap s < s.length) && decide (s.length ≤ lead cap s + 3))))
theorem xAddr3 (s : List UInt8) (k : Nat) (hk : k ≤ s.length) (hs : s.length ≤ 1000000) : ∀ (m i : Nat), i + m = (s.drop k).length → ref_addressed_3 s (k : Int) ((s.drop k).map fun b => (b.toNat : Int)) (((s.drop k).map fun b => (b.toNat : Int)).length : Int) (i : Int) = some (((s.drop k).drop i).all dgt && (decide (1 ≤ k) && (decide (k ≤ 2) && (decide (k < s.length) && decide (s.length ≤ k + 3)))))
 | 0, i, h => by
  rw [ref_addressed_3_eq, cF (decide_eq_false (by rw [List.length_map]; omega)), List.drop_of_length_le (by omega), wrap64 (by omega) (by omega), show decide ((k : Int) ≥ 1) = decide (1 ≤ k) from decide_eq_decide.2 (by omega), show decide ((k : Int) ≤ 2) = decide (k ≤ 2) from decide_eq_decide.2 (by omega), show decide ((s.length : Int) > (k : Int)) = decide (k < s.length) from decide_eq_decide.2 (by omega), show decide ((s.length : Int) ≤ (k : Int) + 3) = decide (s.length ≤ k + 3) from decide_eq_decide.2 (by omega)]
  cases decide (1 ≤ k) <;> cases decide (k ≤ 2) <;> cases decide (k < s.length) <;> rfl
 | m + 1, i, h => by
  have hi : i < (s.drop k).length := by omega
  have hg : ((s.drop k).map fun b => (b.toNat : Int)).getD (i : Int).toNat 0 = (((s.drop k).getD i 0).toNat : Int) := map_get hi
  have hl : (s.drop k).length ≤ s.length := by simp
  rw [ref_addressed_3_eq, cT (decide_eq_true (by rw [List.length_map]; omega)), cT (by rw [List.length_map]; exact ix hi), hg, xDgt, Option.bind_some, all_drop hi]
  cases dgt ((s.drop k).getD i 0) with
  | false => rfl
  | true =>
   have := xAddr3 s k hk hs m (i + 1) (by omega)
   rw [show (!true) = false from rfl, cond_false, wS (by omega), this]; rfl
theorem xAddr1 (s : List UInt8) (hs : s.length ≤ 1000000) : ∀ (m i : Nat), i + m = s.length → ref_addressed_1 s (i : Int) = some ((s.drop (i + lead lt (s.drop i))).all dgt && (decide (1 ≤ i + lead lt (s.drop i)) && (decide (i + lead lt (s.drop i) ≤ 2) && (decide (i + lead lt (s.drop i) < s.length) && decide (s.length ≤ i + lead lt (s.drop i) + 3)))))
 | m, i, h => by
  have stop : lead lt (s.drop i) = 0 → i ≤ s.length → ref_addressed_2 s (i : Int) false = some ((s.drop (i + lead lt (s.drop i))).all dgt && (decide (1 ≤ i + lead lt (s.drop i)) && (decide (i + lead lt (s.drop i) ≤ 2) && (decide (i + lead lt (s.drop i) < s.length) && decide (s.length ≤ i + lead lt (s.drop i) + 3))))) := by
   intro h0 hi
   have := xAddr3 s i hi hs (s.drop i).length 0 (Nat.zero_add _)
   rw [List.drop_zero] at this
   rw [ref_addressed_2_eq, cond_false, cT (by simp; omega), Int.toNat_natCast, h0, Nat.add_zero]
   exact this
  rw [ref_addressed_1_eq]
  match m with
  | 0 =>
   rw [cF (decide_eq_false (by omega))]
   exact stop (by rw [List.drop_of_length_le (by omega)]; rfl) (by omega)
  | m + 1 =>
   have hi : i < s.length := by omega
   rw [cT (decide_eq_true (by omega)), cT (ix hi), Int.toNat_natCast, xLt, Option.bind_some]
   have hl := lead_drop (p := lt) hi
   cases hb : lt (s.getD i 0) with
   | false =>
    rw [hb] at hl
    exact stop (by rw [hl]; rfl) (by omega)
   | true =>
    rw [hb, if_pos rfl] at hl
    rw [ref_addressed_2_eq, cond_true, wS (by omega), xAddr1 s hs m (i + 1) (by omega), hl, show i + (lead lt (s.drop (i + 1)) + 1) = i + 1 + lead lt (s.drop (i + 1)) by omega]
theorem lead_up (s : List UInt8) : lead lt (s.map up) = lead cap (s.map up) := by
 unfold lead
 induction s with
 | nil => rfl
 | cons b s ih => simp only [List.map_cons, List.takeWhile_cons, up_lt]; split <;> simp [ih]
theorem xAddr (s : List UInt8) (hs : s.length ≤ 1000000) : ref_addressed (s.map up) = some (addrR (s.map up)) := by
 rw [ref_addressed_eq]
 have := xAddr1 (s.map up) (by simpa using hs) (s.map up).length 0 (Nat.zero_add _)
 simp only [List.drop_zero, Nat.zero_add] at this
 rw [lead_up] at this
 exact this
theorem yLetters1 (s : List UInt8) (hs : s.length ≤ 1000000) : ∀ (m i : Nat), i + m = s.length → r10_Letters_1 s (i : Int) = some ((i + lead cap (s.drop i) : Nat) : Int)
 | m, i, h => by
  have stop : lead cap (s.drop i) = 0 → r10_Letters_2 s (i : Int) false = some ((i + lead cap (s.drop i) : Nat) : Int) := by
   intro h0
   rw [r10_Letters_2_eq, cond_false, h0]; rfl
  rw [r10_Letters_1_eq]
  match m with
  | 0 =>
   rw [cF (decide_eq_false (by omega))]
   exact stop (by rw [List.drop_of_length_le (by omega)]; rfl)
  | m + 1 =>
   have hi : i < s.length := by omega
   have hl := lead_drop (p := cap) hi
   have next : lead cap (s.drop i) = lead cap (s.drop (i + 1)) + 1 → r10_Letters_2 s (i : Int) true = some ((i + lead cap (s.drop i) : Nat) : Int) := by
    intro h1
    rw [r10_Letters_2_eq, cond_true, wS (by omega), yLetters1 s hs m (i + 1) (by omega), h1]
    congr 2; omega
   rw [cT (decide_eq_true (by omega)), cT (ix hi), cT (ix hi), Int.toNat_natCast, show decide (((s.getD i 0).toNat : Int) ≥ 65) = _ from ge_d _ 65, show decide (((s.getD i 0).toNat : Int) ≤ 90) = _ from le_d _ 90]
   unfold cap at hl
   cases h1 : decide (65 ≤ (s.getD i 0).toNat) with
   | false =>
    rw [h1] at hl
    rw [cond_false]
    exact stop (by unfold cap; rw [hl]; rfl)
   | true =>
    rw [cond_true]
    cases h2 : decide ((s.getD i 0).toNat ≤ 90) with
    | false =>
     rw [h1, h2] at hl
     exact stop (by unfold cap; rw [hl]; rfl)
    | true =>
     rw [h1, h2] at hl
     exact next (by unfold cap; rw [hl]; rfl)
theorem yLetters (s : List UInt8) (hs : s.length ≤ 1000000) : r10_Letters s = some ((lead cap s : Nat) : Int) := by
 rw [r10_Letters_eq]
 have := yLetters1 s hs s.length 0 (Nat.zero_add _)
 simp only [List.drop_zero, Nat.zero_add] at this
 exact this
theorem yAddr2 (s : List UInt8) (hs : s.length ≤ 1000000) : ∀ (m i : Nat), i + m = s.length → r11_address_2 s (i : Int) = some ((s.drop i).all dgt)
 | 0, i, h => by rw [r11_address_2_eq, cF (decide_eq_false (by omega)), List.drop_of_length_le (by omega)]; rfl
 | m + 1, i, h => by
  have hi : i < s.length := by omega
  rw [r11_address_2_eq, cT (decide_eq_true (by omega)), cT (ix hi), Int.toNat_natCast, yDgt, Option.bind_some, all_drop hi]
  cases dgt (s.getD i 0) with
  | false => rfl
  | true => rw [show (!true) = false from rfl, cond_false, wS (by omega), yAddr2 s hs m (i + 1) (by omega)]; rfl
theorem yAddr (s : List UInt8) (hs : s.length ≤ 1000000) : r11_address s = some (addrR s) := by
 have hle := lead_le cap s
 rw [r11_address_eq, yLetters s hs, Option.bind_some, addrR]
 simp only [r11_address_1_eq]
 have h2 := yAddr2 s hs (s.length - lead cap s) (lead cap s) (by omega)
 generalize lead cap s = k at hle h2
 rw [h2, wrap64 (n := (s.length : Int) - (k : Int)) (by omega) (by omega), show decide ((k : Int) < 1) = !decide (1 ≤ k) by rw [← decide_not]; exact decide_eq_decide.2 (by omega), show decide ((k : Int) > 2) = !decide (k ≤ 2) by rw [← decide_not]; exact decide_eq_decide.2 (by omega), show decide ((s.length : Int) - (k : Int) < 1) = !decide (k < s.length) by rw [← decide_not]; exact decide_eq_decide.2 (by omega), show decide ((s.length : Int) - (k : Int) > 3) = !decide (s.length ≤ k + 3) by rw [← decide_not]; exact decide_eq_decide.2 (by omega)]
 cases decide (1 ≤ k) <;> cases decide (k ≤ 2) <;> cases decide (k < s.length) <;> cases decide (s.length ≤ k + 3) <;> cases (s.drop k).all dgt <;> rfl
def okc (b : UInt8) : Bool := lt b || (dgt b || decide (b = 95))
def tTRUE : List UInt8 := [84, 82, 85, 69]
def tFALSE : List UInt8 := [70, 65, 76, 83, 69]
def namedR (s : List UInt8) : Bool := !decide (s = []) && (decide (s.length ≤ 12) && (lt (s.getD 0 0) && (s.all okc && (!decide (s.map up = tTRUE) && (!decide (s.map up = tFALSE) && !addrR (s.map up))))))
theorem eq95 (b : UInt8) : decide ((b.toNat : Int) = 95) = decide (b = 95) := decide_eq_decide.2 ⟨fun h => UInt8.toNat_inj.1 (by show b.toNat = 95; omega), fun h => by subst h; rfl⟩
theorem xNamed2 (s : List UInt8) (hs : s.length ≤ 12) : ∀ (m i : Nat), i + m = s.length → ref_Named_2 s (s.map fun b => (b.toNat : Int)) ((s.map fun b => (b.toNat : Int)).length : Int) (i : Int) = some ((s.drop i).all okc && (!decide (s.map up = tTRUE) && (!decide (s.map up = tFALSE) && !addrR (s.map up))))
 | 0, i, h => by
  rw [ref_Named_2_eq, cF (decide_eq_false (by rw [List.length_map]; omega)), List.drop_of_length_le (by omega), xCapital s (by omega), Option.bind_some]
  simp only [ref_Named_4_eq, xAddr s (by omega), Option.bind_some]
  show cond (decide (s.map up = tTRUE)) _ (cond (decide (s.map up = tFALSE)) _ _) = _
  cases decide (s.map up = tTRUE) <;> cases decide (s.map up = tFALSE) <;> rfl
 | m + 1, i, h => by
  have hi : i < s.length := by omega
  have hg : (s.map fun b => (b.toNat : Int)).getD (i : Int).toNat 0 = ((s.getD i 0).toNat : Int) := by simp [List.getD, hi]
  have next := xNamed2 s hs m (i + 1) (by omega)
  rw [ref_Named_2_eq, cT (decide_eq_true (by rw [List.length_map]; omega)), cT (by rw [List.length_map]; exact ix hi), hg, xLt, Option.bind_some, xDgt, Option.bind_some, eq95, all_drop hi, okc]
  simp only [ref_Named_3_eq, wS (show i + 1 ≤ 9223372036854775807 by omega), next]
  cases lt (s.getD i 0) <;> cases dgt (s.getD i 0) <;> cases decide (s.getD i 0 = 95) <;> rfl
theorem xNamedR (s : List UInt8) : ref_Named s = some (namedR s) := by
 rw [ref_Named_eq, namedR]
 simp only [ref_Named_1_eq]
 by_cases h0 : s = []
 ·rw [cT (decide_eq_true h0), decide_eq_true h0]; rfl
 ·rw [cF (decide_eq_false h0), decide_eq_false h0]
  by_cases h12 : s.length ≤ 12
  ·have hp : 0 < s.length := List.length_pos_iff.2 h0
   have := xNamed2 s h12 s.length 0 (Nat.zero_add _)
   rw [List.drop_zero] at this
   rw [cF (decide_eq_false (by omega)), decide_eq_true h12, cT (by simp; omega), xLt, Option.bind_some]
   cases lt (s.getD 0 0) with
   | false => rfl
   | true => exact this
  ·rw [cT (decide_eq_true (by omega)), decide_eq_false h12]; rfl
theorem yNamed2 (s : List UInt8) (hs : s.length ≤ 12) : ∀ (m i : Nat), i + m = s.length → r11_Named_2 s (i : Int) = some ((s.drop i).all okc)
 | 0, i, h => by rw [r11_Named_2_eq, cF (decide_eq_false (by omega)), List.drop_of_length_le (by omega)]; rfl
 | m + 1, i, h => by
  have hi : i < s.length := by omega
  have next := yNamed2 s hs m (i + 1) (by omega)
  rw [r11_Named_2_eq, cT (decide_eq_true (by omega)), cT (ix hi), cT (ix hi), cT (ix hi), Int.toNat_natCast, yLt, Option.bind_some, yDgt, Option.bind_some, eq95, all_drop hi, okc]
  simp only [r11_Named_3_eq, wS (show i + 1 ≤ 9223372036854775807 by omega), next]
  cases lt (s.getD i 0) <;> cases dgt (s.getD i 0) <;> cases decide (s.getD i 0 = 95) <;> rfl
theorem yNamedR (s : List UInt8) : r11_Named s = some (namedR s) := by
 rw [r11_Named_eq, namedR]
 simp only [r11_Named_1_eq]
 by_cases h0 : s = []
 ·subst h0; rfl
 ·have hp : 0 < s.length := List.length_pos_iff.2 h0
  rw [cF (decide_eq_false (by omega)), decide_eq_false h0]
  by_cases h12 : s.length ≤ 12
  ·have := yNamed2 s h12 s.length 0 (Nat.zero_add _)
   rw [List.drop_zero] at this
   have this : r11_Named_2 s 0 = some (s.all okc) := this
   rw [cF (decide_eq_false (by omega)), decide_eq_true h12, cT (by simp; omega), yLt, Option.bind_some, yCapital s (by omega), Option.bind_some, yAddr _ (by rw [List.length_map]; omega), Option.bind_some, Option.bind_some, Option.bind_some, this]
   show cond _ _ (cond _ _ (cond (decide (s.map up = tTRUE)) _ (cond (decide (s.map up = tFALSE)) _ _))) = _
   cases lt (s.getD 0 0) <;> cases addrR (s.map up) <;> cases decide (s.map up = tTRUE) <;> cases decide (s.map up = tFALSE) <;> cases s.all okc <;> rfl
  ·rw [cT (decide_eq_true (by omega)), decide_eq_false h12]; rfl
end Go.Proofs.YtgnkkanhjghhfaaGreatDoor.F
namespace Go.Proofs.YtgnkkanhjghhfaaGreatDoor.F
open Go Go.Proofs.YtgnkkanhjghhfaaGreatDoor.K
def inG (c r : Int) : Bool := decide (1 ≤ c) && (decide (c ≤ 52) && (decide (1 ≤ r) && decide (r ≤ 99)))
theorem xIn (c r : Int) : addr_In c r = some (inG c r) := by
 rw [addr_In_eq, addr_within_eq, addr_within_eq, inG]
 show (cond (decide (1 ≤ c)) (some (decide (c ≤ 52))) (some false) : Option Bool).bind _ = _
 cases decide (1 ≤ c) <;> cases decide (c ≤ 52) <;> first | rfl | skip
 show (cond (decide (1 ≤ r)) (some (decide (r ≤ 99))) (some false) : Option Bool).bind _ = _
 cases decide (1 ≤ r) <;> rfl
theorem yIn (c r : Int) : r10_In c r = some (inG c r) := by
 rw [r10_In_eq, inG]
 show cond (decide (1 ≤ c)) (cond _ (cond (decide (1 ≤ r)) _ _) _) _ = _
 cases decide (1 ≤ c) <;> cases decide (c ≤ 52) <;> cases decide (1 ≤ r) <;> rfl
def right (r : Rf) : Bool := (decide (r.1 = []) || namedR r.1) && inG r.2.1 r.2.2.1
theorem xRight (r : Rf) : ref_Right r = some (right r) := by
 rw [ref_Right_eq, xIn, xNamedR, Option.bind_some, right]
 cases decide (r.1 = []) <;> cases namedR r.1 <;> rfl
theorem yRight (r : Rf) : r11_Right r = some (right r) := by
 rw [r11_Right_eq, yIn, yNamedR, Option.bind_some, right]
 cases decide (r.1 = []) <;> cases namedR r.1 <;> rfl
def last (w : Int) : Int := cond (decide (w = 0)) 52 (cond (decide (w = 1)) 99 0)
def place (r : Rf) (w : Int) : Int := cond (decide (w = 0)) r.2.1 r.2.2.1
end Go.Proofs.YtgnkkanhjghhfaaGreatDoor.F
namespace Go.Proofs.YtgnkkanhjghhfaaGreatDoor.D
open Go Go.Proofs.YtgnkkanhjghhfaaGreatDoor.K
def iv : Nat → Nat → List Int
 | _, 0 => []
 | a, n + 1 => (a : Int) :: iv (a + 1) n
theorem iv_len : ∀ (n a : Nat), (iv a n).length = n
 | 0, _ => rfl
 | n + 1, a => by simp [iv, iv_len n]
theorem iv_add : ∀ (m a n : Nat), iv a (m + n) = iv a m ++ iv (a + m) n
 | 0, a, n => by simp [iv]
 | m + 1, a, n => by
  rw [show m + 1 + n = (m + n) + 1 by omega]
  simp only [iv, List.cons_append]
  rw [iv_add m (a + 1) n, show a + 1 + m = a + (m + 1) by omega]
theorem iv_get : ∀ (n a i : Nat), i < n → (iv a n).getD i 0 = ((a + i : Nat) : Int)
 | 0, _, _, h => by omega
 | n + 1, a, 0, _ => by simp [iv]
 | n + 1, a, i + 1, h => by
  have := iv_get n (a + 1) i (by omega)
  simp only [iv, List.getD_cons_succ]
  rw [this]; congr 1; omega
theorem iv_of : ∀ (l : List Int) (a : Nat), (∀ i, i < l.length → l.getD i 0 = ((a + i : Nat) : Int)) → l = iv a l.length
 | [], _, _ => rfl
 | x :: l, a, h => by
  have h0 := h 0 (by simp)
  simp only [List.getD_cons_zero, Nat.add_zero] at h0
  simp only [List.length_cons, iv]
  rw [← h0]; congr 1
  refine iv_of l (a + 1) fun i hi => ?_
  have := h (i + 1) (by simp; omega)
  simp only [List.getD_cons_succ] at this
  rw [this]; congr 1; omega
theorem iv_parts : ∀ (u : List Int) (x : Int) (v : List Int) (a n : Nat), u ++ x :: v = iv a n → u = iv a u.length ∧ x = ((a + u.length : Nat) : Int) ∧ v = iv (a + u.length + 1) v.length ∧ n = u.length + 1 + v.length
 | [], x, v, a, 0, h => by cases h
 | [], x, v, a, n + 1, h => by
  simp only [List.nil_append, iv, List.cons.injEq] at h
  obtain ⟨rfl, rfl⟩ := h
  refine ⟨rfl, rfl, ?_, by simp [iv_len]; omega⟩
  simp [iv_len]
 | y :: u, x, v, a, 0, h => by cases h
 | y :: u, x, v, a, n + 1, h => by
  simp only [List.cons_append, iv, List.cons.injEq] at h
  obtain ⟨rfl, h⟩ := h
  obtain ⟨h1, h2, h3, h4⟩ := iv_parts u x v (a + 1) n h
  refine ⟨by simp only [List.length_cons, iv]; rw [← h1], ?_, ?_, by simp; omega⟩
  ·rw [h2]; simp; omega
  ·rw [h3, iv_len]; simp only [List.length_cons]; congr 1; omega
inductive Fo (kd : Nat → List Int) : Nat → Nat → List Int → Prop
 | nil (a : Nat) : Fo kd a a []
 | cons {a k b : Nat} {ks : List Int} : Fo kd a k (kd k) → Fo kd (k + 1) b ks → Fo kd a b ((k : Int) :: ks)
inductive Po (kd : Nat → List Int) : List Int → List Int → Prop
 | nil : Po kd [] []
 | cons {k : Nat} {ks u v : List Int} : Po kd (kd k) u → Po kd ks v → Po kd ((k : Int) :: ks) (u ++ (k : Int) :: v)
variable {kd : Nat → List Int}
theorem Fo.le {a b : Nat} {ks : List Int} (h : Fo kd a b ks) : a ≤ b := by
 induction h with
 | nil a => exact Nat.le_refl _
 | cons _ _ h1 h2 => omega
theorem Fo.append {a b c : Nat} {xs ys : List Int} (h : Fo kd a b xs) (h' : Fo kd b c ys) : Fo kd a c (xs ++ ys) := by
 induction h with
 | nil a => exact h'
 | cons h1 _ _ ih => exact .cons h1 (ih h')
theorem Fo.split : ∀ {xs ys : List Int} {a c : Nat}, Fo kd a c (xs ++ ys) → ∃ b, Fo kd a b xs ∧ Fo kd b c ys
 | [], ys, a, c, h => ⟨a, .nil a, h⟩
 | x :: xs, ys, a, c, h => by
  cases h with
  | cons h1 h2 =>
   obtain ⟨b, h3, h4⟩ := Fo.split h2
   exact ⟨b, .cons h1 h3, h4⟩
theorem Fo.mem {a b : Nat} {ks : List Int} (h : Fo kd a b ks) : ∀ x ∈ ks, ∃ k : Nat, x = (k : Int) ∧ a ≤ k ∧ k < b := by
 induction h with
 | nil a => intro x hx; cases hx
 | cons h1 h2 _ ih =>
  intro x hx
  have l1 := h1.le
  have l2 := h2.le
  rcases List.mem_cons.1 hx with rfl | hx
  ·exact ⟨_, rfl, l1, by omega⟩
  ·obtain ⟨k, e, h3, h4⟩ := ih x hx
   exact ⟨k, e, by omega, h4⟩
theorem Fo.len {a b : Nat} {ks : List Int} (h : Fo kd a b ks) : ks.length ≤ b - a := by
 induction h with
 | nil a => simp
 | cons h1 h2 _ ih =>
  have l1 := h1.le
  have l2 := h2.le
  simp; omega
theorem Fo.one {a b : Nat} {x : Int} (h : Fo kd a b [x]) : ∃ k : Nat, x = (k : Int) ∧ b = k + 1 ∧ Fo kd a k (kd k) := by
 cases h with
 | cons h1 h2 =>
  cases h2 with
  | nil => exact ⟨_, rfl, rfl, h1⟩
theorem Po.fo {ks l : List Int} (h : Po kd ks l) : ∀ a n, l = iv a n → Fo kd a (a + n) ks := by
 induction h with
 | nil =>
  intro a n h
  cases n with
  | zero => exact .nil a
  | succ n => cases h
 | @cons k ks u v _ _ ih1 ih2 =>
  intro a n h
  obtain ⟨h1, h2, h3, h4⟩ := iv_parts _ _ _ a n h
  have h2 := Int.ofNat_inj.1 h2
  have f1 := ih1 a _ h1
  rw [← h2] at f1
  have f2 := ih2 _ _ h3
  rw [← h2] at f2
  rw [show a + n = k + 1 + v.length by omega]
  exact .cons f1 f2
theorem Po.append {xs ys u v : List Int} (h : Po kd xs u) (h' : Po kd ys v) : Po kd (xs ++ ys) (u ++ v) := by
 induction h with
 | nil => exact h'
 | cons h1 _ _ ih => simp only [List.cons_append, List.append_assoc]; exact .cons h1 ih
end Go.Proofs.YtgnkkanhjghhfaaGreatDoor.D
namespace Go.Proofs.YtgnkkanhjghhfaaGreatDoor.D
open Go Go.Proofs.YtgnkkanhjghhfaaGreatDoor.K
open Go.Proofs.YtgnkkanhjghhfaaGreatDoor.P (nat val val_nat nat_zero nat_eq_nil nat_inj nat_one wS)
open Go.Proofs.YtgnkkanhjghhfaaGreatDoor.F (Rf cap dgt map_get all_drop inG)
abbrev Nd := Int × Int × Int × Int × (Bool × List UInt8 × List UInt8) × List UInt8 × Bool × (List UInt8 × Int × Int × Bool × Bool) × List UInt8 × Int × Int × Bool × Bool
abbrev Fmu := List Nd × List Int
abbrev Pt := Int × Int × Int × Int
def ZN : Nd := (0, 0, 0, 0, (false, [], []), [], false, ([], 0, 0, false, false), [], 0, 0, false, false)
theorem w64 {x : Int} (h0 : -9223372036854775808 ≤ x) (h1 : x ≤ 9223372036854775807) : IntKind.i64.wrap x = x := wrap64 h0 h1
theorem ix {i n : Nat} (h : i < n) : (decide (0 ≤ (i : Int)) && decide ((i : Int) < (n : Int))) = true := by simp; omega
def eqC (a b : Nd) : Bool := (decide (a.1 = b.1)) && ((decide (a.2.1 = b.2.1)) && ((decide (a.2.2.1 = b.2.2.1)) && ((decide (a.2.2.2.1 = b.2.2.2.1)) && ((a.2.2.2.2.1.1 == b.2.2.2.2.1.1) && ((decide (a.2.2.2.2.1.2.1 = b.2.2.2.2.1.2.1)) && ((decide (a.2.2.2.2.1.2.2 = b.2.2.2.2.1.2.2)) && ((decide (a.2.2.2.2.2.1 = b.2.2.2.2.2.1)) && ((a.2.2.2.2.2.2.1 == b.2.2.2.2.2.2.1) && ((decide (a.2.2.2.2.2.2.2.1.1 = b.2.2.2.2.2.2.2.1.1)) && ((decide (a.2.2.2.2.2.2.2.1.2.1 = b.2.2.2.2.2.2.2.1.2.1)) && ((decide (a.2.2.2.2.2.2.2.1.2.2.1 = b.2.2.2.2.2.2.2.1.2.2.1)) && ((a.2.2.2.2.2.2.2.1.2.2.2.1 == b.2.2.2.2.2.2.2.1.2.2.2.1) && ((a.2.2.2.2.2.2.2.1.2.2.2.2 == b.2.2.2.2.2.2.2.1.2.2.2.2) && ((decide (a.2.2.2.2.2.2.2.2.1 = b.2.2.2.2.2.2.2.2.1)) && ((decide (a.2.2.2.2.2.2.2.2.2.1 = b.2.2.2.2.2.2.2.2.2.1)) && ((decide (a.2.2.2.2.2.2.2.2.2.2.1 = b.2.2.2.2.2.2.2.2.2.2.1)) && ((a.2.2.2.2.2.2.2.2.2.2.2.1 == b.2.2.2.2.2.2.2.2.2.2.2.1) && (a.2.2.2.2.2.2.2.2.2.2.2.2 == b.2.2.2.2.2.2.2.2.2.2.2.2))))))))))))))))))
theorem eqC_eq (v w : Nd) : eqC v w = true ↔ v = w := by
 obtain ⟨a1, a2, a3, a4, ⟨a5, a6, a7⟩, a8, a9, ⟨a10, a11, a12, a13, a14⟩, a15, a16, a17, a18, a19⟩ := v
 obtain ⟨b1, b2, b3, b4, ⟨b5, b6, b7⟩, b8, b9, ⟨b10, b11, b12, b13, b14⟩, b15, b16, b17, b18, b19⟩ := w
 unfold eqC
 simp only [Bool.and_eq_true, decide_eq_true_eq, beq_iff_eq, Prod.mk.injEq]
 constructor
 ·rintro ⟨h1, h2, h3, h4, h5, h6, h7, h8, h9, h10, h11, h12, h13, h14, h15, h16, h17, h18, h19⟩
  exact ⟨h1, h2, h3, h4, ⟨h5, h6, h7⟩, h8, h9, ⟨h10, h11, h12, h13, h14⟩, h15, h16, h17, h18, h19⟩
 ·rintro ⟨h1, h2, h3, h4, ⟨h5, h6, h7⟩, h8, h9, ⟨h10, h11, h12, h13, h14⟩, h15, h16, h17, h18, h19⟩
  exact ⟨h1, h2, h3, h4, h5, h6, h7, h8, h9, h10, h11, h12, h13, h14, h15, h16, h17, h18, h19⟩
theorem eqC_comm (v w : Nd) : eqC v w = eqC w v := by rw [Bool.eq_iff_iff, eqC_eq, eqC_eq]; exact eq_comm
def cd (b : UInt8) : Bool := cap b || dgt b
def nmV (s : List UInt8) : Bool := (s.all cd && cap (s.getD 0 0)) && (!decide (s = []) && decide (s.length ≤ 12))
theorem nm2 (s : List UInt8) (i : Nat) (q : Bool) (r : Bool) (hi : i + 1 ≤ 9223372036854775807) (h : ast_named_1 s (s.map fun b => (b.toNat : Int)) ((s.map fun b => (b.toNat : Int)).length : Int) ((i + 1 : Nat) : Int) = some r) :
  ast_named_2 s (s.map fun b => (b.toNat : Int)) ((s.map fun b => (b.toNat : Int)).length : Int) (i : Int) q = some (!q && r) := by
 rw [ast_named_2_eq, wS (by omega), h]
 cases q <;> rfl
theorem xNm1 (s : List UInt8) (hs : s.length ≤ 9223372036854775807) : ∀ (m i : Nat), i + m = s.length → 1 ≤ i → ast_named_1 s (s.map fun b => (b.toNat : Int)) ((s.map fun b => (b.toNat : Int)).length : Int) (i : Int) = some ((s.drop i).all cd && (!decide (s = []) && decide (s.length ≤ 12)))
 | 0, i, h, h1 => by
  rw [ast_named_1_eq, cF (decide_eq_false (by simp; omega)), List.drop_of_length_le (by omega), show decide ((s.length : Int) ≤ 12) = decide (s.length ≤ 12) from decide_eq_decide.2 (by omega)]
  cases decide (s = []) <;> simp
 | m + 1, i, h, h1 => by
  have hi : i < s.length := by omega
  have ih := xNm1 s hs m (i + 1) (by omega) (by omega)
  rw [ast_named_1_eq, cT (decide_eq_true (by simp; omega)), cT (ix (by simp; omega)), map_get hi, nm2 s i true _ (by omega) ih, nm2 s i false _ (by omega) ih, nm2 s i _ _ (by omega) ih, all_drop hi]
  rw [cF (show decide ((i : Int) = 0) = false from decide_eq_false (by omega))]
  generalize (s.drop (i + 1)).all cd = r
  generalize (!decide (s = []) && decide (s.length ≤ 12)) = z
  unfold cd cap dgt
  generalize (s.getD i 0).toNat = c
  by_cases c1 : (c : Int) < 65
  ·rw [cT (decide_eq_true c1), decide_eq_false (show ¬ 65 ≤ c by omega)]
   by_cases c2 : (c : Int) < 48
   ·rw [cT (decide_eq_true c2), decide_eq_false (show ¬ 48 ≤ c by omega)]; simp
   ·rw [cF (decide_eq_false c2), decide_eq_true (show 48 ≤ c by omega)]
    by_cases c3 : (c : Int) > 57
    ·rw [decide_eq_true c3, decide_eq_false (show ¬ c ≤ 57 by omega)]; simp
    ·rw [decide_eq_false c3, decide_eq_true (show c ≤ 57 by omega)]; simp
  ·rw [cF (decide_eq_false c1), decide_eq_true (show 65 ≤ c by omega)]
   by_cases c2 : (c : Int) > 90
   ·rw [cT (decide_eq_true c2), decide_eq_false (show ¬ c ≤ 90 by omega), cF (decide_eq_false (by omega)), decide_eq_true (by omega), decide_eq_false (show ¬ c ≤ 57 by omega)]; simp
   ·rw [cF (decide_eq_false c2), decide_eq_true (show c ≤ 90 by omega)]; simp
theorem xNm (s : List UInt8) (hs : s.length ≤ 9223372036854775807) : ast_named s = some (nmV s) := by
 cases s with
 | nil => rw [ast_named_eq, ast_named_1_eq]; rfl
 | cons b t =>
  have h0 : 0 < (b :: t).length := by simp
  have ih := xNm1 (b :: t) hs t.length 1 (by simp; omega) (by omega)
  rw [ast_named_eq]
  show ast_named_1 (b :: t) ((b :: t).map fun b => (b.toNat : Int)) (((b :: t).map fun b => (b.toNat : Int)).length : Int) ((0 : Nat) : Int) = _
  rw [ast_named_1_eq, cT (decide_eq_true (by simp)), cT (ix (by simp)), map_get h0, nm2 (b :: t) 0 true _ (by omega) ih, nm2 (b :: t) 0 false _ (by omega) ih, nm2 (b :: t) 0 _ _ (by omega) ih]
  rw [cT (show decide (((0 : Nat) : Int) = 0) = true from rfl), nmV]
  show _ = some ((cd b && t.all cd) && cap b && _)
  show cond (decide ((b.toNat : Int) < 65)) (some (!true && (t.all cd && _))) (cond (decide ((b.toNat : Int) > 90)) (some (!true && (t.all cd && _))) (some (!false && (t.all cd && _)))) = _
  generalize t.all cd = r
  generalize (!decide (b :: t = []) && decide ((b :: t).length ≤ 12)) = z
  unfold cd cap
  generalize dgt b = d
  generalize b.toNat = c
  by_cases c1 : (c : Int) < 65
  ·rw [cT (decide_eq_true c1), decide_eq_false (show ¬ 65 ≤ c by omega)]; simp
  ·rw [cF (decide_eq_false c1), decide_eq_true (show 65 ≤ c by omega)]
   by_cases c2 : (c : Int) > 90
   ·rw [cT (decide_eq_true c2), decide_eq_false (show ¬ c ≤ 90 by omega)]; simp
   ·rw [cF (decide_eq_false c2), decide_eq_true (show c ≤ 90 by omega)]; simp
theorem yLetters (s : List UInt8) (hs : s.length ≤ 1000) : ∀ (m i : Nat), i + m = s.length → ∃ k : Int, r10_Letters_1 s (i : Int) = some k ∧ (i : Int) ≤ k
 | 0, i, h => ⟨i, by rw [r10_Letters_1_eq, cF (decide_eq_false (by omega)), r10_Letters_2_eq]; rfl, by omega⟩
 | m + 1, i, h => by
  have hi : i < s.length := by omega
  obtain ⟨k, hk, hle⟩ := yLetters s hs m (i + 1) (by omega)
  have l2 : ∀ q, r10_Letters_2 s (i : Int) q = some (cond q k (i : Int)) := fun q => by
   rw [r10_Letters_2_eq, wS (by omega), hk]; cases q <;> rfl
  rw [r10_Letters_1_eq, cT (decide_eq_true (by omega)), cT (ix hi), cT (ix hi), l2, l2]
  cases decide (((s.getD (i : Int).toNat 0).toNat : Int) ≥ 65) <;> cases decide (((s.getD (i : Int).toNat 0).toNat : Int) ≤ 90)
  ·exact ⟨_, rfl, Int.le_refl _⟩
  ·exact ⟨_, rfl, Int.le_refl _⟩
  ·exact ⟨_, rfl, Int.le_refl _⟩
  ·exact ⟨_, rfl, by simp only [cond_true]; omega⟩
theorem yNm2 (s : List UInt8) (hs : s.length ≤ 1000) : ∀ (m i : Nat), i + m = s.length → r13_Named_2 s (i : Int) = some ((s.drop i).all cd)
 | 0, i, h => by rw [r13_Named_2_eq, cF (decide_eq_false (by omega)), List.drop_of_length_le (by omega)]; rfl
 | m + 1, i, h => by
  have hi : i < s.length := by omega
  have n3 : ∀ q, r13_Named_3 s (i : Int) q = some (!q && (s.drop (i + 1)).all cd) := fun q => by
   rw [r13_Named_3_eq, wS (by omega), yNm2 s hs m (i + 1) (by omega)]; cases q <;> rfl
  rw [r13_Named_2_eq, cT (decide_eq_true (by omega)), cT (ix hi), cT (ix hi), cT (ix hi), Int.toNat_natCast, Go.Proofs.YtgnkkanhjghhfaaGreatDoor.F.yDgt, Option.bind_some, n3, n3, n3, all_drop hi]
  unfold cd cap
  generalize dgt (s.getD i 0) = d
  generalize (s.getD i 0).toNat = c
  generalize (s.drop (i + 1)).all _ = r
  cases d
  ·rw [Bool.not_false, cond_true, Bool.or_false]
   by_cases c1 : (c : Int) < 65
   ·rw [cT (decide_eq_true c1), decide_eq_false (show ¬ 65 ≤ c by omega)]; simp
   ·rw [cF (decide_eq_false c1), decide_eq_true (show 65 ≤ c by omega)]
    by_cases c2 : (c : Int) > 90
    ·rw [decide_eq_true c2, decide_eq_false (show ¬ c ≤ 90 by omega)]; simp
    ·rw [decide_eq_false c2, decide_eq_true (show c ≤ 90 by omega)]; simp
  ·simp
theorem yNm (s : List UInt8) (hs : s.length ≤ 9223372036854775807) : r13_Named s = some (nmV s) := by
 have n1 : ∀ q, s.length ≤ 12 → r13_Named_1 s q = some (!q && s.all cd) := fun q h => by
  rw [r13_Named_1_eq, show (0 : Int) = ((0 : Nat) : Int) from rfl, yNm2 s (by omega) s.length 0 (Nat.zero_add _)]; cases q <;> rfl
 have bad : r13_Named_1 s true = some false := by rw [r13_Named_1_eq, cond_true]
 rw [r13_Named_eq, bad]
 cases s with
 | nil => rfl
 | cons b t =>
  rw [cF (decide_eq_false (by simp; omega))]
  by_cases h12 : (b :: t).length ≤ 12
  ·rw [cF (decide_eq_false (by omega)), r10_Letters_eq]
   obtain ⟨k, hk, hle⟩ := yLetters (b :: t) (by omega) t.length 1 (by simp; omega)
   have l1 : r10_Letters_1 (b :: t) 0 = some (cond (cap b) k 0) := by
    have l2 : ∀ q, r10_Letters_2 (b :: t) 0 q = some (cond q k 0) := fun q => by
     rw [r10_Letters_2_eq, show IntKind.i64.wrap (0 + 1) = ((1 : Nat) : Int) from rfl, hk]; cases q <;> rfl
    have in0 : (decide ((0 : Int) ≤ 0) && decide ((0 : Int) < ((b :: t).length : Int))) = true := ix (i := 0) (n := (b :: t).length) (by simp)
    rw [r10_Letters_1_eq, cT (show decide ((0 : Int) < ((b :: t).length : Int)) = true from decide_eq_true (by simp)), cT in0, cT in0, l2, l2]
    show cond (decide ((b.toNat : Int) ≥ 65)) (some (cond (decide ((b.toNat : Int) ≤ 90)) k 0)) (some (cond false k 0)) = _
    unfold cap
    by_cases c1 : (b.toNat : Int) ≥ 65
    ·rw [cT (decide_eq_true c1), decide_eq_true (show 65 ≤ b.toNat by omega)]
     by_cases c2 : (b.toNat : Int) ≤ 90
     ·rw [decide_eq_true c2, decide_eq_true (show b.toNat ≤ 90 by omega)]; rfl
     ·rw [decide_eq_false c2, decide_eq_false (show ¬ b.toNat ≤ 90 by omega)]; rfl
    ·rw [cF (decide_eq_false c1), decide_eq_false (show ¬ 65 ≤ b.toNat by omega)]; rfl
   rw [l1, Option.bind_some, n1 _ h12, nmV, decide_eq_true h12]
   show _ = some ((_ && cap b) && _)
   have : decide (b :: t = []) = false := decide_eq_false (by simp)
   rw [this]
   cases cap b
   ·show some (!decide ((0 : Int) = 0) && _) = _
    simp
   ·show some (!decide (k = 0) && _) = _
    rw [decide_eq_false (by omega)]; simp
  ·rw [cT (decide_eq_true (by omega)), nmV, decide_eq_false h12]; simp
def sizV (x : Pt) : Int := IntKind.i64.wrap ((IntKind.i64.wrap ((IntKind.i64.wrap (x.2.2.1 - x.1)) + 1)) * (IntKind.i64.wrap ((IntKind.i64.wrap (x.2.2.2 - x.2.1)) + 1)))
def mmV (x : Pt) : Pt := (min x.1 x.2.2.1, min x.2.1 x.2.2.2, max x.1 x.2.2.1, max x.2.1 x.2.2.2)
def normV (x : Pt) : Pt × Int := cond (!inG x.1 x.2.1) ((0, 0, 0, 0), 6) (cond (!inG x.2.2.1 x.2.2.2) ((0, 0, 0, 0), 6) (cond (decide (sizV (mmV x) > 200)) ((0, 0, 0, 0), 7) (mmV x, 0)))
theorem xNorm (x : Pt) : addr_Area_Norm x = some (normV x) := by
 have n1 : ∀ q, addr_Area_Norm_1 q x (0, 0, 0, 0) = some (cond q ((0, 0, 0, 0), 6) (cond (decide (sizV (mmV x) > 200)) ((0, 0, 0, 0), 7) (mmV x, 0))) := fun q => by
  rw [addr_Area_Norm_1_eq, addr_Area_size_eq, Option.bind_some]
  show cond q _ (cond (decide (sizV (mmV x) > 200)) _ _) = _
  cases q <;> cases decide (sizV (mmV x) > 200) <;> rfl
 rw [addr_Area_Norm_eq, Go.Proofs.YtgnkkanhjghhfaaGreatDoor.F.xIn, Option.bind_some, Go.Proofs.YtgnkkanhjghhfaaGreatDoor.F.xIn, Option.bind_some, n1, n1, normV]
 cases inG x.1 x.2.1 <;> cases inG x.2.2.1 x.2.2.2 <;> rfl
theorem yNorm (x : Pt) : r10_Area_Norm x = some (normV x) := by
 have n1 : ∀ q, r10_Area_Norm_1 q x (0, 0, 0, 0) = some (cond q ((0, 0, 0, 0), 6) (cond (decide (sizV (mmV x) > 200)) ((0, 0, 0, 0), 7) (mmV x, 0))) := fun q => by
  rw [r10_Area_Norm_1_eq]
  show cond q _ (cond (decide (sizV (mmV x) > 200)) _ _) = _
  cases q <;> cases decide (sizV (mmV x) > 200) <;> rfl
 rw [r10_Area_Norm_eq, Go.Proofs.YtgnkkanhjghhfaaGreatDoor.F.yIn, Option.bind_some, Go.Proofs.YtgnkkanhjghhfaaGreatDoor.F.yIn, Option.bind_some, n1, n1, normV]
 cases inG x.1 x.2.1 <;> cases inG x.2.2.1 x.2.2.2 <;> rfl
def eqP (x y : Pt) : Bool := (decide (x.1 = y.1)) && ((decide (x.2.1 = y.2.1)) && ((decide (x.2.2.1 = y.2.2.1)) && (decide (x.2.2.2 = y.2.2.2))))
theorem eqP_eq (x y : Pt) : eqP x y = decide (x = y) := by
 obtain ⟨a, b, c, d⟩ := x
 obtain ⟨a', b', c', d'⟩ := y
 unfold eqP
 rw [Bool.eq_iff_iff]
 simp only [Bool.and_eq_true, decide_eq_true_eq, Prod.mk.injEq]
theorem eqP_comm (x y : Pt) : eqP x y = eqP y x := by rw [eqP_eq, eqP_eq]; exact decide_eq_decide.2 eq_comm
theorem siz_pos {x : Pt} (h : (normV x).2 = 0) (he : x = (normV x).1) : sizV x > 0 := by
 unfold normV at h he
 cases h1 : inG x.1 x.2.1 with
 | false => rw [h1] at h; cases h
 | true =>
  cases h2 : inG x.2.2.1 x.2.2.2 with
  | false => rw [h1, h2] at h; cases h
  | true =>
   rw [h1, h2] at h he
   simp only [Bool.not_true, cond_false] at h he
   cases h3 : decide (sizV (mmV x) > 200) with
   | true => rw [h3] at h; cases h
   | false =>
    rw [h3] at he
    simp only [cond_false] at he
    obtain ⟨a, b, c, d⟩ := x
    unfold inG at h1 h2
    simp only [Bool.and_eq_true, decide_eq_true_eq] at h1 h2
    simp only [mmV, Prod.mk.injEq] at he
    obtain ⟨e1, e2, e3, e4⟩ := he
    have u1 : 1 ≤ c - a + 1 ∧ c - a + 1 ≤ 52 := by omega
    have u2 : 1 ≤ d - b + 1 ∧ d - b + 1 ≤ 99 := by omega
    unfold sizV
    simp only
    rw [w64 (x := c - a) (by omega) (by omega), w64 (x := c - a + 1) (by omega) (by omega), w64 (x := d - b) (by omega) (by omega), w64 (x := d - b + 1) (by omega) (by omega)]
    generalize c - a + 1 = p at u1
    generalize d - b + 1 = q at u2
    have hp : 0 < p * q := Int.mul_pos (by omega) (by omega)
    have hq : p * q ≤ 52 * 99 := Int.mul_le_mul u1.2 u2.2 (by omega) (by omega)
    rw [w64 (by omega) (by omega)]
    exact hp
def boxV (a b : Rf) : Bool := Go.Proofs.YtgnkkanhjghhfaaGreatDoor.F.right a && (Go.Proofs.YtgnkkanhjghhfaaGreatDoor.F.right b && (decide (b.1 = []) && (decide ((normV (a.2.1, a.2.2.1, b.2.1, b.2.2.1)).2 = 0) && eqP (normV (a.2.1, a.2.2.1, b.2.1, b.2.2.1)).1 (a.2.1, a.2.2.1, b.2.1, b.2.2.1))))
theorem xBox (a b : Rf) : ast_box a b = some (boxV a b) := by
 rw [ast_box_eq, addr_Area_Size_eq, addr_Area_well_eq, xNorm, Option.bind_some, Go.Proofs.YtgnkkanhjghhfaaGreatDoor.F.xRight, Option.bind_some, Go.Proofs.YtgnkkanhjghhfaaGreatDoor.F.xRight, Option.bind_some, boxV]
 generalize hx : ((a.2.1, a.2.2.1, b.2.1, b.2.2.1) : Pt) = x
 show (Option.bind (Option.bind (cond (decide ((normV x).2 = 0)) (some (eqP x (normV x).1)) (some false)) fun v1 => cond (!v1) (some 0) ((addr_Area_size x).bind fun v2 => some v2)) fun v1 => _) = _
 rw [addr_Area_size_eq]
 by_cases h0 : (normV x).2 = 0
 ·rw [decide_eq_true h0, cond_true, Option.bind_some, eqP_comm]
  cases he : eqP (normV x).1 x with
  | false => simp
  | true =>
   rw [eqP_eq] at he
   have hp := siz_pos h0 (of_decide_eq_true he).symm
   show cond (decide (sizV x > 0)) _ _ = _
   rw [decide_eq_true hp]
   cases Go.Proofs.YtgnkkanhjghhfaaGreatDoor.F.right a <;> cases Go.Proofs.YtgnkkanhjghhfaaGreatDoor.F.right b <;> simp
 ·rw [decide_eq_false h0, cond_false]; simp
def endsR (r : Rt) : Bool := (endsN (val (well r).2.2)).2
def numQ (r : Rt) : Bool := right r && (!r.1 && endsR r)
theorem xNumQ (r : Rt) : ast_number r = some (numQ r) := by
 obtain ⟨s, n, d, e, f⟩ := well_form r
 rw [ast_number_eq, xEnds e f, Option.bind_some, xRight, Option.bind_some, numQ, endsR, e, val_nat]
 cases right r <;> cases r.1 <;> rfl
def c1 (n : Nd) : Nd := (n.1, 0, 0, 0, n.2.2.2.2.1, [], false, ([], 0, 0, false, false), [], 0, 0, false, false)
def c2 (n : Nd) : Nd := (n.1, 0, 0, 0, (false, [], []), n.2.2.2.2.2.1, false, ([], 0, 0, false, false), [], 0, 0, false, false)
def c3 (n : Nd) : Nd := (n.1, 0, 0, 0, (false, [], []), [], n.2.2.2.2.2.2.1, ([], 0, 0, false, false), [], 0, 0, false, false)
def c4 (n : Nd) : Nd := (n.1, n.2.1, 0, 0, (false, [], []), [], false, ([], 0, 0, false, false), [], 0, 0, false, false)
def c5 (n : Nd) : Nd := (n.1, 0, 0, 0, (false, [], []), [], false, n.2.2.2.2.2.2.2.1, [], 0, 0, false, false)
def c6 (n : Nd) : Nd := (n.1, 0, 0, 0, (false, [], []), [], false, n.2.2.2.2.2.2.2)
def c7 (n : Nd) : Nd := (n.1, n.2.1, n.2.2.1, 0, (false, [], []), [], false, ([], 0, 0, false, false), [], 0, 0, false, false)
def c8 (n : Nd) : Nd := (n.1, n.2.1, n.2.2.1, n.2.2.2.1, (false, [], []), [], false, ([], 0, 0, false, false), [], 0, 0, false, false)
def c9 (n : Nd) : Nd := (n.1, 0, n.2.2.1, n.2.2.2.1, (false, [], []), n.2.2.2.2.2.1, false, ([], 0, 0, false, false), [], 0, 0, false, false)
def opsV (n : Nd) : Bool := decide (n.2.1 = 13) || decide (n.2.1 = 14)
def binV (n : Nd) : Bool := decide (n.2.1 ≥ 1) && decide (n.2.1 ≤ 12)
def argV (n : Nd) : Bool := decide (n.2.2.2.1 ≥ 0) && (decide (n.2.2.2.1 ≤ 20) && (decide (n.2.2.2.1 > 0) || decide (n.2.2.1 = 0)))
def canV (n : Nd) : Bool := cond (decide (n.1 = 1)) (eqC n (c1 n) && numQ n.2.2.2.2.1) (cond (decide (n.1 = 2)) (eqC n (c2 n) && plainV n.2.2.2.2.2.1) (cond (decide (n.1 = 3)) (eqC n (c3 n)) (cond (decide (n.1 = 4)) (eqC n (c4 n) && isF n.2.1) (cond (decide (n.1 = 5)) (eqC n (c5 n) && Go.Proofs.YtgnkkanhjghhfaaGreatDoor.F.right n.2.2.2.2.2.2.2.1) (cond (decide (n.1 = 6)) (eqC n (c6 n) && boxV n.2.2.2.2.2.2.2.1 n.2.2.2.2.2.2.2.2) (cond (decide (n.1 = 7)) (eqC n (c7 n) && opsV n) (cond (decide (n.1 = 8)) (eqC n (c8 n) && binV n) (cond (decide (n.1 = 9)) (eqC n (c9 n) && (nmV n.2.2.2.2.2.1 && argV n)) false))))))))
theorem may1 (n : Nd) (q : Bool) (x : Nd) : ast_may_1 q n x = some (eqC n x && q) := by
 rw [ast_may_1_eq]
 show cond q (some (eqC x n)) (some false) = _
 rw [eqC_comm]
 cases q <;> cases eqC n x <;> rfl
theorem text2 (s : List UInt8) : decide ((vText s).1 = 2) = plainV s := by
 unfold vText vFault
 cases plainV s <;> rfl
theorem name4 (k : Int) : (!decide (nameV k = ([] : List UInt8))) = isF k := by
 cases h : isF k with
 | false => unfold nameV; rw [h]; rfl
 | true => rcases isF_cases h with rfl | rfl | rfl | rfl | rfl | rfl | rfl <;> rfl
theorem xCan (n : Nd) (hs : n.2.2.2.2.2.1.length ≤ 9223372036854775807) : ast_may n = some (canV n) := by
 rw [ast_may_eq, xNumQ, xvText _ hs, xName, Go.Proofs.YtgnkkanhjghhfaaGreatDoor.F.xRight, xBox, xNm _ hs]
 simp only [Option.bind_some, may1, text2, name4]
 rw [canV]
 generalize decide (n.1 = 1) = k1
 generalize decide (n.1 = 2) = k2
 generalize decide (n.1 = 3) = k3
 generalize decide (n.1 = 4) = k4
 generalize decide (n.1 = 5) = k5
 generalize decide (n.1 = 6) = k6
 generalize decide (n.1 = 7) = k7
 generalize decide (n.1 = 8) = k8
 generalize decide (n.1 = 9) = k9
 cases k1
 ·cases k2
  ·cases k3
   ·cases k4
    ·cases k5
     ·cases k6
      ·cases k7
       ·cases k8
        ·cases k9
         ·simp
         ·show cond (nmV _) (cond (decide (n.2.2.2.1 ≥ 0)) (cond (decide (n.2.2.2.1 ≤ 20)) (cond (decide (n.2.2.2.1 > 0)) (some (eqC n (c9 n) && true)) (some (eqC n (c9 n) && decide (n.2.2.1 = 0)))) (some (eqC n (c9 n) && false))) (some (eqC n (c9 n) && false))) (some (eqC n (c9 n) && false)) = some (eqC n (c9 n) && (nmV _ && argV n))
          unfold argV
          generalize eqC n (c9 n) = e
          cases nmV n.2.2.2.2.2.1 <;> cases decide (n.2.2.2.1 ≥ 0) <;> cases decide (n.2.2.2.1 ≤ 20) <;> cases decide (n.2.2.2.1 > 0) <;> cases e <;> simp
        ·show cond (decide (n.2.1 ≥ 1)) (some (eqC n (c8 n) && decide (n.2.1 ≤ 12))) (some (eqC n (c8 n) && false)) = some (eqC n (c8 n) && binV n)
         unfold binV
         cases decide (n.2.1 ≥ 1) <;> simp
       ·show cond (decide (n.2.1 = 13)) (some (eqC n (c7 n) && true)) (some (eqC n (c7 n) && decide (n.2.1 = 14))) = some (eqC n (c7 n) && opsV n)
        unfold opsV
        cases decide (n.2.1 = 13) <;> simp
      ·rfl
     ·rfl
    ·rfl
   ·show some (eqC n (c3 n) && true) = some (eqC n (c3 n))
    rw [Bool.and_true]
  ·rfl
 ·rfl
theorem yCan (n : Nd) (hs : n.2.2.2.2.2.1.length ≤ 9223372036854775807) : r13_may n = some (canV n) := by
 obtain ⟨s, m, d, e, f⟩ := well_form n.2.2.2.2.1
 rw [r13_may_eq, yEnds e f, yRight, yPlain, Go.Proofs.YtgnkkanhjghhfaaGreatDoor.F.yRight, Go.Proofs.YtgnkkanhjghhfaaGreatDoor.F.yRight, r13_Box_eq, yNm _ hs]
 repeat rw [Option.bind_some]
 rw [yNorm]
 repeat rw [Option.bind_some]
 rw [canV]
 show cond (decide (n.1 = 1)) (cond (eqC n (c1 n)) (cond (right n.2.2.2.2.1) (cond (!n.2.2.2.2.1.1) (some (endsN d).2) (some false)) (some false)) (some false)) (cond (decide (n.1 = 2)) (cond (eqC n (c2 n)) (some (plainV _)) (some false)) (cond (decide (n.1 = 3)) (some (eqC n (c3 n))) (cond (decide (n.1 = 4)) (cond (eqC n (c4 n)) (cond (decide (n.2.1 ≥ 1)) (some (decide (n.2.1 ≤ 7))) (some false)) (some false)) (cond (decide (n.1 = 5)) (cond (eqC n (c5 n)) (some (Go.Proofs.YtgnkkanhjghhfaaGreatDoor.F.right _)) (some false))
  (cond (decide (n.1 = 6)) (cond (eqC n (c6 n)) (cond (Go.Proofs.YtgnkkanhjghhfaaGreatDoor.F.right n.2.2.2.2.2.2.2.1) (cond (Go.Proofs.YtgnkkanhjghhfaaGreatDoor.F.right n.2.2.2.2.2.2.2.2) (cond (decide (n.2.2.2.2.2.2.2.2.1 = [])) (cond (decide ((normV (n.2.2.2.2.2.2.2.1.2.1, n.2.2.2.2.2.2.2.1.2.2.1, n.2.2.2.2.2.2.2.2.2.1, n.2.2.2.2.2.2.2.2.2.2.1)).2 = 0)) (some (eqP (normV (n.2.2.2.2.2.2.2.1.2.1, n.2.2.2.2.2.2.2.1.2.2.1, n.2.2.2.2.2.2.2.2.2.1, n.2.2.2.2.2.2.2.2.2.2.1)).1 (n.2.2.2.2.2.2.2.1.2.1, n.2.2.2.2.2.2.2.1.2.2.1, n.2.2.2.2.2.2.2.2.2.1, n.2.2.2.2.2.2.2.2.2.2.1))) (some false)) (some false)) (some false)) (some false)) (some false))
  (cond (decide (n.1 = 7)) (cond (eqC n (c7 n)) (cond (decide (n.2.1 = 13)) (some true) (some (decide (n.2.1 = 14)))) (some false)) (cond (decide (n.1 = 8)) (cond (eqC n (c8 n)) (cond (decide (n.2.1 ≥ 1)) (some (decide (n.2.1 ≤ 12))) (some false)) (some false)) (cond (decide (n.1 = 9)) (cond (eqC n (c9 n)) (cond (nmV n.2.2.2.2.2.1) (cond (decide (n.2.2.2.1 ≥ 0)) (cond (decide (n.2.2.2.1 ≤ 20)) (cond (decide (n.2.2.2.1 > 0)) (some true) (some (decide (n.2.2.1 = 0)))) (some false)) (some false)) (some false)) (some false)) (some false))))))))) = _
 have en : endsR n.2.2.2.2.1 = (endsN d).2 := by rw [endsR, e, val_nat]
 generalize decide (n.1 = 1) = k1
 generalize decide (n.1 = 2) = k2
 generalize decide (n.1 = 3) = k3
 generalize decide (n.1 = 4) = k4
 generalize decide (n.1 = 5) = k5
 generalize decide (n.1 = 6) = k6
 generalize decide (n.1 = 7) = k7
 generalize decide (n.1 = 8) = k8
 generalize decide (n.1 = 9) = k9
 cases k1
 ·cases k2
  ·cases k3
   ·cases k4
    ·cases k5
     ·cases k6
      ·cases k7
       ·cases k8
        ·cases k9
         ·rfl
         ·unfold argV
          cases eqC n (c9 n) <;> cases nmV n.2.2.2.2.2.1 <;> cases decide (n.2.2.2.1 ≥ 0) <;> cases decide (n.2.2.2.1 ≤ 20) <;> cases decide (n.2.2.2.1 > 0) <;> rfl
        ·unfold binV
         cases eqC n (c8 n) <;> cases decide (n.2.1 ≥ 1) <;> rfl
       ·unfold opsV
        cases eqC n (c7 n) <;> cases decide (n.2.1 = 13) <;> rfl
      ·unfold boxV
       generalize eqP _ _ = q
       generalize decide ((normV _).2 = 0) = p
       cases eqC n (c6 n) <;> cases Go.Proofs.YtgnkkanhjghhfaaGreatDoor.F.right n.2.2.2.2.2.2.2.1 <;> cases Go.Proofs.YtgnkkanhjghhfaaGreatDoor.F.right n.2.2.2.2.2.2.2.2 <;> cases decide (n.2.2.2.2.2.2.2.2.1 = []) <;> cases p <;> rfl
     ·cases eqC n (c5 n) <;> rfl
    ·unfold isF
     rw [show decide (n.2.1 ≥ 1) = decide (1 ≤ n.2.1) from rfl]
     cases eqC n (c4 n) <;> cases decide (1 ≤ n.2.1) <;> rfl
   ·rfl
  ·cases eqC n (c2 n) <;> rfl
 ·unfold numQ
  rw [en]
  cases eqC n (c1 n) <;> cases right n.2.2.2.2.1 <;> cases n.2.2.2.2.1.1 <;> rfl
def levV (n : Nd) : Int := if n.1 = 7 then (if n.2.1 = 13 then 6 else if n.2.1 = 14 then 7 else 8) else if n.1 = 8 then (if n.2.1 = 1 ∨ n.2.1 = 2 then 3 else if n.2.1 = 3 ∨ n.2.1 = 4 then 4 else if n.2.1 = 5 then 5 else if n.2.1 = 6 then 2 else if 7 ≤ n.2.1 ∧ n.2.1 ≤ 12 then 1 else 8) else 8
theorem xLev (n : Nd) : ast_Level n = some (levV n) := by
 rw [ast_Level_eq, levV]
 simp only [ast_Level_1_eq, ast_Level_2_eq, ast_Level_3_eq, Bool.cond_decide, cond_true, cond_false]
 repeat' (first | rfl | (exfalso; omega) | split)
theorem yLev (n : Nd) : r13_Level n = some (levV n) := by
 rw [r13_Level_eq, levV]
 simp only [r13_Level_1_eq, r13_Level_2_eq, r13_Level_3_eq, r13_Level_4_eq, r13_Level_5_eq, Bool.cond_decide, cond_true, cond_false, Bool.cond_not]
 by_cases h7 : n.1 = 7
 ·have h8 : ¬ n.1 = 8 := by omega
  simp only [if_pos h7, if_neg h8]
  by_cases h13 : n.2.1 = 13
  ·simp only [if_pos h13]
  ·simp only [if_neg h13]
   by_cases h14 : n.2.1 = 14
   ·simp only [if_pos h14]
   ·simp only [if_neg h14]
 ·simp only [if_neg h7]
  by_cases h8 : n.1 = 8
  ·simp only [if_pos h8]
   generalize n.2.1 = op
   by_cases hb : 1 ≤ op ∧ op ≤ 12
   ·have : op = 1 ∨ op = 2 ∨ op = 3 ∨ op = 4 ∨ op = 5 ∨ op = 6 ∨ op = 7 ∨ op = 8 ∨ op = 9 ∨ op = 10 ∨ op = 11 ∨ op = 12 := by omega
    rcases this with rfl | rfl | rfl | rfl | rfl | rfl | rfl | rfl | rfl | rfl | rfl | rfl <;> rfl
   ·rw [if_neg (show ¬ op = 7 by omega), if_neg (show ¬ op = 8 by omega), if_neg (show ¬ op = 9 by omega), if_neg (show ¬ op = 10 by omega), if_neg (show ¬ op = 11 by omega), if_neg (show ¬ op = 12 by omega), if_neg (show ¬ op = 6 by omega), if_neg (show ¬ op = 1 by omega), if_neg (show ¬ op = 2 by omega), if_neg (show ¬ op = 3 by omega), if_neg (show ¬ op = 4 by omega), if_neg (show ¬ op = 5 by omega), if_neg (show ¬ (op = 1 ∨ op = 2) by omega), if_neg (show ¬ (op = 3 ∨ op = 4) by omega), if_neg (show ¬ (7 ≤ op ∧ op ≤ 12) by omega)]
    try rw [if_neg (show ¬ op = 5 by omega), if_neg (show ¬ op = 6 by omega)]
  ·simp only [if_neg h8]
end Go.Proofs.YtgnkkanhjghhfaaGreatDoor.D
namespace Go.Proofs.YtgnkkanhjghhfaaGreatDoor.D
open Go Go.Proofs.YtgnkkanhjghhfaaGreatDoor.K
open Go.Proofs.YtgnkkanhjghhfaaGreatDoor.P (wS)
def oddK (n : Nd) (A : List Int) : Bool := decide (n.2.2.1 < 0) || (decide (n.2.2.1 > (A.length : Int)) || decide (n.2.2.2.1 > (A.length : Int) - n.2.2.1))
def kv (n : Nd) (A : List Int) : List Int × Bool :=
 cond (decide (n.1 = 7)) ([n.2.2.1], true) (cond (decide (n.1 = 8)) ([n.2.2.1, n.2.2.2.1], true) (cond (decide (n.1 = 9)) (cond (decide (n.2.2.2.1 > 0)) (cond (oddK n A) ([], false) ((A.take (n.2.2.1 + n.2.2.2.1).toNat).drop n.2.2.1.toNat, true)) ([], true)) ([], true)))
def nd (f : Fmu) (i : Nat) : Nd := f.1.getD i ZN
def kd (f : Fmu) (i : Nat) : List Int := (kv (nd f i) f.2).1
theorem oddK_false {n : Nd} {A : List Int} (h : oddK n A = false) : 0 ≤ n.2.2.1 ∧ n.2.2.1 ≤ (A.length : Int) ∧ n.2.2.2.1 ≤ (A.length : Int) - n.2.2.1 := by
 unfold oddK at h
 simp only [Bool.or_eq_false_iff, decide_eq_false_iff_not] at h
 omega
theorem yKids (f : Fmu) (hA : f.2.length ≤ 1000) {i : Nat} (hi : i < f.1.length) : r13_kids f (i : Int) = some (kv (nd f i) f.2) := by
 rw [r13_kids_eq, cT (ix hi), Int.toNat_natCast]
 show cond (decide ((nd f i).1 = 7)) (some ([(nd f i).2.2.1], true)) (cond (decide ((nd f i).1 = 8)) (some ([(nd f i).2.2.1, (nd f i).2.2.2.1], true)) (cond (decide ((nd f i).1 = 9)) (cond (decide ((nd f i).2.2.2.1 > 0)) (cond (decide ((nd f i).2.2.1 < 0)) (r13_kids_1 true [] f (nd f i)) (cond (decide ((nd f i).2.2.1 > (f.2.length : Int))) (r13_kids_1 true [] f (nd f i)) (r13_kids_1 (decide ((nd f i).2.2.2.1 > (IntKind.i64.wrap ((f.2.length : Int) - (nd f i).2.2.1)))) [] f (nd f i)))) (r13_kids_1 false [] f (nd f i))) (some ([], true)))) = _
 generalize nd f i = n
 have bad : r13_kids_1 true [] f n = some ([], false) := by rw [r13_kids_1_eq, cond_true]
 unfold kv
 cases decide (n.1 = 7)
 ·cases decide (n.1 = 8)
  ·cases decide (n.1 = 9)
   ·rfl
   ·simp only [cond_true, cond_false, bad]
    by_cases hb : n.2.2.2.1 > 0
    ·rw [decide_eq_true hb, cond_true, cond_true]
     unfold oddK
     by_cases h1 : n.2.2.1 < 0
     ·rw [decide_eq_true h1]; rfl
     ·rw [decide_eq_false h1, cond_false]
      by_cases h2 : n.2.2.1 > (f.2.length : Int)
      ·rw [decide_eq_true h2]; rfl
      ·rw [decide_eq_false h2, cond_false, w64 (by omega) (by omega)]
       by_cases h3 : n.2.2.2.1 > (f.2.length : Int) - n.2.2.1
       ·rw [decide_eq_true h3, bad]; rfl
       ·have hin : (decide (0 ≤ n.2.2.1) && (decide (n.2.2.1 ≤ n.2.2.1 + n.2.2.2.1) && decide (n.2.2.1 + n.2.2.2.1 ≤ (f.2.length : Int)))) = true := by simp; omega
        rw [decide_eq_false h3, r13_kids_1_eq, cond_false, decide_eq_true hb, cond_true, w64 (x := n.2.2.1 + n.2.2.2.1) (by omega) (by omega), cT hin]
        have room : Nat.ble ((([] : List Int).length + ((f.2.take (n.2.2.1 + n.2.2.2.1).toNat).drop n.2.2.1.toNat).length) * 8) 140737488355328 = true := Nat.ble_eq_true_of_le (by simp; omega)
        rw [cT room]; rfl
    ·rw [decide_eq_false hb, cond_false, cond_false, r13_kids_1_eq, cond_false, decide_eq_false hb]; rfl
  ·rfl
 ·rfl
theorem xKids (n : Nd) (A : List Int) (hA : A.length ≤ 1000) (hc : n.1 = 9 → 0 ≤ n.2.2.2.1 ∧ (n.2.2.2.1 > 0 ∨ n.2.2.1 = 0)) : ast_kids n A = some (kv n A) := by
 have bad : ast_kids_1 A true n = some ([], false) := by rw [ast_kids_1_eq, cond_true]
 rw [ast_kids_eq, bad]
 unfold kv
 cases decide (n.1 = 7)
 ·cases decide (n.1 = 8)
  ·by_cases h9 : n.1 = 9
   ·obtain ⟨c1, c2⟩ := hc h9
    simp only [decide_eq_true h9, cond_true, cond_false]
    by_cases h1 : n.2.2.1 < 0
    ·have hb : n.2.2.2.1 > 0 := by omega
     rw [cT (decide_eq_true h1), cT (decide_eq_true hb), oddK, decide_eq_true h1]; rfl
    ·rw [cF (decide_eq_false h1)]
     by_cases h2 : n.2.2.1 > (A.length : Int)
     ·have hb : n.2.2.2.1 > 0 := by omega
      rw [cT (decide_eq_true h2), cT (decide_eq_true hb), oddK, decide_eq_true h2, Bool.true_or, Bool.or_true]; rfl
     ·rw [cF (decide_eq_false h2), w64 (by omega) (by omega)]
      by_cases h3 : n.2.2.2.1 > (A.length : Int) - n.2.2.1
      ·have hb : n.2.2.2.1 > 0 := by omega
       rw [decide_eq_true h3, bad, cT (decide_eq_true hb), oddK, decide_eq_true h3, Bool.or_true, Bool.or_true]; rfl
      ·have hin : (decide (0 ≤ n.2.2.1) && (decide (n.2.2.1 ≤ n.2.2.1 + n.2.2.2.1) && (decide (n.2.2.1 + n.2.2.2.1 ≤ n.2.2.1 + n.2.2.2.1) && decide (n.2.2.1 + n.2.2.2.1 ≤ (A.length : Int))))) = true := by simp; omega
       rw [decide_eq_false h3, ast_kids_1_eq, cond_false, w64 (x := n.2.2.1 + n.2.2.2.1) (by omega) (by omega), cT hin, cT (decide_eq_true rfl)]
       by_cases hb : n.2.2.2.1 > 0
       ·rw [cT (decide_eq_true hb), oddK, decide_eq_false h1, decide_eq_false h2, decide_eq_false h3]; rfl
       ·have e1 : n.2.2.2.1 = 0 := by omega
        have e2 : n.2.2.1 = 0 := by omega
        rw [cF (decide_eq_false hb), e1, e2]
        simp
   ·simp only [decide_eq_false h9, cond_false]
  ·rfl
 ·rfl
theorem can_arg {n : Nd} (h : canV n = true) (h9 : n.1 = 9) : 0 ≤ n.2.2.2.1 ∧ n.2.2.2.1 ≤ 20 ∧ (n.2.2.2.1 > 0 ∨ n.2.2.1 = 0) := by
 unfold canV at h
 rw [h9] at h
 have h : (eqC n (c9 n) && (nmV n.2.2.2.2.2.1 && argV n)) = true := h
 simp only [Bool.and_eq_true] at h
 have ha := h.2.2
 unfold argV at ha
 simp only [Bool.and_eq_true, Bool.or_eq_true, decide_eq_true_eq] at ha
 omega
theorem kv_len (n : Nd) (A : List Int) (hA : A.length ≤ 1000) : (kv n A).1.length ≤ 1000 := by
 unfold kv
 cases decide (n.1 = 7) <;> cases decide (n.1 = 8) <;> cases decide (n.1 = 9) <;> cases decide (n.2.2.2.1 > 0) <;> cases oddK n A <;> simp
 all_goals omega
theorem kd_len (f : Fmu) (hA : f.2.length ≤ 1000) (i : Nat) : (kd f i).length ≤ 1000 := kv_len _ _ hA
theorem Po.one {kd : Nat → List Int} {i : Nat} {out : List Int} (h : Po kd (kd i) out) : Po kd [(i : Int)] (out ++ [(i : Int)]) := .cons h .nil
theorem take_one {l : List Int} {k : Nat} (h : k < l.length) : l.take (k + 1) = l.take k ++ [l.getD k 0] := by
 rw [List.take_succ_eq_append_getElem h, List.getD_eq_getElem?_getD, List.getElem?_eq_getElem h]; rfl
theorem yWalkBad (f : Fmu) (x b : Int) (h : x < 0 ∨ x ≥ (f.1.length : Int) ∨ b ≤ 0) : r13_walk f x b = some ([], false) := by
 have bad : r13_walk_1 x b true f = some ([], false) := by rw [r13_walk_1_eq, cond_true]
 rw [r13_walk_eq, bad]
 by_cases h1 : x < 0
 ·rw [cT (decide_eq_true h1)]
 ·rw [cF (decide_eq_false h1)]
  by_cases h2 : x ≥ (f.1.length : Int)
  ·rw [cT (decide_eq_true h2)]
  ·rw [cF (decide_eq_false h2), decide_eq_true (show b ≤ 0 by omega), bad]
def TL (f : Fmu) (z : List Int) : Prop := ∀ x ∈ z, ∃ j : Nat, x = (j : Int) ∧ (kv (nd f j) f.2).2 = true
theorem yWalk (f : Fmu) (hA : f.2.length ≤ 1000) : ∀ (i : Nat) (b : Int), i < f.1.length → -1000 ≤ b → b ≤ 1000 → ∃ z t, r13_walk f (i : Int) b = some (z, t) ∧ (t = true → Po (kd f) [(i : Int)] z ∧ (z.length : Int) ≤ b ∧ TL f z) := by
 intro i
 induction i using Nat.strongRecOn with
 | _ i ih =>
  intro b hi hb1 hb2
  have hkb := kd_len f hA i
  by_cases hb : b ≤ 0
  ·exact ⟨[], false, yWalkBad f _ b (.inr (.inr hb)), fun h => by cases h⟩
  have loop : (kv (nd f i) f.2).2 = true → ∀ (m k : Nat) (out : List Int), k + m = (kd f i).length → Po (kd f) ((kd f i).take k) out → (out.length : Int) ≤ b - 1 → TL f out →
    ∃ z t, r13_walk_2 (i : Int) b (kd f i) (k : Int) out f = some (z, t) ∧ (t = true → Po (kd f) [(i : Int)] z ∧ (z.length : Int) ≤ b ∧ TL f z) := by
   intro ht m
   induction m with
   | zero =>
    intro k out hk hp ho hq
    have room : Nat.ble ((out.length + [(i : Int)].length) * 8) 140737488355328 = true := Nat.ble_eq_true_of_le (by simp; omega)
    rw [r13_walk_2_eq, cF (decide_eq_false (by omega)), cT room]
    refine ⟨_, _, rfl, fun hd => ?_⟩
    have hd := of_decide_eq_true hd
    rw [List.take_of_length_le (by omega)] at hp
    refine ⟨hp.one, by simp; omega, fun x hx => ?_⟩
    rw [List.mem_append] at hx
    rcases hx with hx | hx
    ·exact hq x hx
    ·simp only [List.mem_singleton] at hx; exact ⟨i, hx, ht⟩
   | succ m ihm =>
    intro k out hk hp ho hq
    have hkl : k < (kd f i).length := by omega
    have stop : ∀ z : Option (List Int × Bool), z = some ([], false) → ∃ z' t, z = some (z', t) ∧ (t = true → Po (kd f) [(i : Int)] z' ∧ (z'.length : Int) ≤ b ∧ TL f z') := fun z hz => ⟨[], false, hz, fun h => by cases h⟩
    rw [r13_walk_2_eq, cT (decide_eq_true (by omega)), cT (ix hkl), Int.toNat_natCast]
    have hx := take_one hkl
    generalize (kd f i).getD k 0 = x at hx
    by_cases h1 : x ≥ (i : Int)
    ·exact stop _ (by rw [cT (decide_eq_true h1)])
    ·rw [cF (decide_eq_false h1), cT (ix hkl), w64 (x := b - (out.length : Int)) (by omega) (by omega), w64 (x := b - (out.length : Int) - 1) (by omega) (by omega)]
     by_cases h0 : x < 0
     ·exact stop _ (by rw [yWalkBad f x _ (.inl h0)]; rfl)
     ·obtain ⟨j, rfl⟩ : ∃ j : Nat, x = (j : Int) := ⟨x.toNat, by omega⟩
      obtain ⟨z', t', hw, hr⟩ := ih j (by omega) (b - (out.length : Int) - 1) (by omega) (by omega) (by omega)
      rw [hw, Option.bind_some]
      cases t' with
      | false => exact stop _ rfl
      | true =>
       obtain ⟨r1, r2, r3⟩ := hr rfl
       have room : Nat.ble ((out.length + z'.length) * 8) 140737488355328 = true := Nat.ble_eq_true_of_le (by omega)
       simp only [Bool.not_true, cond_false]
       rw [cT room, wS (by omega)]
       exact ihm (k + 1) (out ++ z') (by omega) (by rw [hx]; exact hp.append r1) (by rw [List.length_append]; omega) (fun y hy => by
        rw [List.mem_append] at hy
        rcases hy with hy | hy
        ·exact hq y hy
        ·exact r3 y hy)
  rw [r13_walk_eq, cF (decide_eq_false (by omega)), cF (decide_eq_false (by omega)), decide_eq_false hb, r13_walk_1_eq, cond_false, yKids f hA hi, Option.bind_some]
  cases ht : (kv (nd f i) f.2).2 with
  | false => exact ⟨[], false, rfl, fun h => by cases h⟩
  | true =>
   obtain ⟨z, t, h1, h2⟩ := loop ht (kd f i).length 0 [] (Nat.zero_add _) (by rw [List.take_zero]; exact .nil) (by simp; omega) (fun y hy => by cases hy)
   exact ⟨z, t, h1, h2⟩
theorem yWalkFo (f : Fmu) (hA : f.2.length ≤ 1000) (htold : ∀ j, j < f.1.length → (kv (nd f j) f.2).2 = true) : ∀ (i a : Nat) (b : Int), i < f.1.length → Fo (kd f) a i (kd f i) → (i : Int) + 1 - (a : Int) ≤ b → b ≤ 1000 → r13_walk f (i : Int) b = some (iv a (i + 1 - a), true) := by
 intro i
 induction i using Nat.strongRecOn with
 | _ i ih =>
  intro a b hi hfo hb1 hb2
  have hkb := kd_len f hA i
  have hai := hfo.le
  have loop : ∀ (m k c : Nat), k + m = (kd f i).length → a ≤ c → Fo (kd f) c i ((kd f i).drop k) → r13_walk_2 (i : Int) b (kd f i) (k : Int) (iv a (c - a)) f = some (iv a (i + 1 - a), true) := by
   intro m
   induction m with
   | zero =>
    intro k c hk hac hf
    rw [List.drop_of_length_le (by omega)] at hf
    have hci : c = i := by cases hf; rfl
    subst hci
    have hl := iv_len (c - a) a
    have room : Nat.ble (((iv a (c - a)).length + [(c : Int)].length) * 8) 140737488355328 = true := Nat.ble_eq_true_of_le (by rw [hl]; simp; omega)
    rw [r13_walk_2_eq, cF (decide_eq_false (by omega)), cT room, hl, decide_eq_true (by omega), show c + 1 - a = (c - a) + 1 by omega, iv_add (c - a) a 1, show a + (c - a) = c by omega]
    rfl
   | succ m ihm =>
    intro k c hk hac hf
    have hkl : k < (kd f i).length := by omega
    have hdrop : (kd f i).drop k = (kd f i).getD k 0 :: (kd f i).drop (k + 1) := by
     rw [List.drop_eq_getElem_cons hkl, List.getD_eq_getElem?_getD, List.getElem?_eq_getElem hkl]; rfl
    rw [hdrop] at hf
    have hl := iv_len (c - a) a
    have hci := hf.le
    rw [r13_walk_2_eq, cT (decide_eq_true (by omega)), cT (ix hkl), Int.toNat_natCast]
    generalize (kd f i).getD k 0 = x at hf
    cases hf with
    | @cons _ j _ _ f1 f2 =>
     have l1 := f1.le
     have l2 := f2.le
     rw [cF (decide_eq_false (by omega)), cT (ix hkl), hl, w64 (x := b - ((c - a : Nat) : Int)) (by omega) (by omega), w64 (x := b - ((c - a : Nat) : Int) - 1) (by omega) (by omega), ih j (by omega) c _ (by omega) f1 (by omega) (by omega), Option.bind_some]
     have hl2 := iv_len (j + 1 - c) c
     have room : Nat.ble (((c - a) + (iv c (j + 1 - c)).length) * 8) 140737488355328 = true := Nat.ble_eq_true_of_le (by rw [hl2]; omega)
     simp only [Bool.not_true, cond_false]
     rw [cT room, wS (by omega), show iv a (c - a) ++ iv c (j + 1 - c) = iv a (j + 1 - a) by
      rw [show j + 1 - a = (c - a) + (j + 1 - c) by omega, iv_add, show a + (c - a) = c by omega]]
     exact ihm (k + 1) (j + 1) (by omega) (by omega) f2
  rw [r13_walk_eq, cF (decide_eq_false (by omega)), cF (decide_eq_false (by omega)), decide_eq_false (show ¬ b ≤ 0 by omega), r13_walk_1_eq, cond_false, yKids f hA hi, Option.bind_some, htold i hi]
  have := loop (kd f i).length 0 a (Nat.zero_add _) (Nat.le_refl _) hfo
  rw [Nat.sub_self] at this
  exact this
end Go.Proofs.YtgnkkanhjghhfaaGreatDoor.D
namespace Go.Proofs.YtgnkkanhjghhfaaGreatDoor.D
open Go Go.Proofs.YtgnkkanhjghhfaaGreatDoor.K
open Go.Proofs.YtgnkkanhjghhfaaGreatDoor.P (wS)
def PZ : Pt := (0, 0, 0, 0)
theorem pdrop {w : List Pt} {i : Nat} (h : i < w.length) : w.drop i = w.getD i PZ :: w.drop (i + 1) := by
 rw [List.drop_eq_getElem_cons h, List.getD_eq_getElem?_getD, List.getElem?_eq_getElem h]; rfl
def deepB (own : Int) (call : Bool) (i : Nat) (lv : Int) : Bool := !call && (decide (lv < own) || (decide (i = 1) && decide (lv = own)))
def nst (own : Int) (call : Bool) : Nat → List Pt → Int → Int
 | _, [], d => d
 | i, p :: r, d => nst own call (i + 1) r (max d (cond (deepB own call i p.2.2.1) (p.2.2.2 + 1) p.2.2.2))
def nestV (n : Nd) (l : List Pt) : Int := cond (decide (n.1 = 9) || decide (levV n = 6)) (nst (levV n) (decide (n.1 = 9)) 0 l 0 + 1) (nst (levV n) (decide (n.1 = 9)) 0 l 0)
theorem nst_bd {own : Int} {call : Bool} {M : Int} : ∀ (l : List Pt) (i : Nat) (d : Int), (∀ p ∈ l, 0 ≤ p.2.2.2 ∧ p.2.2.2 ≤ M) → 0 ≤ d → d ≤ M + 1 → 0 ≤ nst own call i l d ∧ nst own call i l d ≤ M + 1
 | [], _, d, _, h0, h1 => ⟨h0, h1⟩
 | p :: r, i, d, hp, h0, h1 => by
  have := hp p (by simp)
  simp only [nst]
  refine nst_bd r (i + 1) _ (fun q hq => hp q (by simp [hq])) ?_ ?_
  ·omega
  ·cases deepB own call i p.2.2.1
   ·simp only [cond_false]; omega
   ·simp only [cond_true]; omega
theorem nestV_bd {n : Nd} {l : List Pt} {M : Int} (hM : 0 ≤ M) (hp : ∀ p ∈ l, 0 ≤ p.2.2.2 ∧ p.2.2.2 ≤ M) : 0 ≤ nestV n l ∧ nestV n l ≤ M + 2 := by
 have := nst_bd (own := levV n) (call := decide (n.1 = 9)) l 0 0 hp (Int.le_refl _) (by omega)
 unfold nestV
 cases decide (n.1 = 9) || decide (levV n = 6)
 ·simp only [cond_false]; omega
 ·simp only [cond_true]; omega
theorem xNest (n : Nd) (l : List Pt) (hl : l.length ≤ 1000) (hp : ∀ p ∈ l, 0 ≤ p.2.2.2 ∧ p.2.2.2 ≤ 1000) : ast_nest n l = some (nestV n l) := by
 have loop : ∀ (m i : Nat) (d : Int), i + m = l.length → 0 ≤ d → d ≤ 1001 → ast_nest_1 d (levV n) l (l.length : Int) (i : Int) n = some (cond (decide (n.1 = 9) || decide (levV n = 6)) (nst (levV n) (decide (n.1 = 9)) i (l.drop i) d + 1) (nst (levV n) (decide (n.1 = 9)) i (l.drop i) d)) := by
  intro m
  induction m with
  | zero =>
   intro i d h h0 h1
   rw [ast_nest_1_eq, cF (decide_eq_false (by omega)), List.drop_of_length_le (by omega), ast_nest_3_eq, ast_nest_3_eq, w64 (x := d + 1) (by omega) (by omega)]
   simp only [nst]
   cases decide (n.1 = 9) <;> cases decide (levV n = 6) <;> rfl
  | succ m ih =>
   intro i d h h0 h1
   have hi : i < l.length := by omega
   have hq := hp (l.getD i PZ) (by rw [List.getD_eq_getElem?_getD, List.getElem?_eq_getElem hi]; exact List.getElem_mem hi)
   have n4 : ∀ x : Int, 0 ≤ x → x ≤ 1001 → ast_nest_4 d (levV n) x l (l.length : Int) (i : Int) n = some (cond (decide (n.1 = 9) || decide (levV n = 6)) (nst (levV n) (decide (n.1 = 9)) (i + 1) (l.drop (i + 1)) (max d x) + 1) (nst (levV n) (decide (n.1 = 9)) (i + 1) (l.drop (i + 1)) (max d x))) := fun x x0 x1 => by
    rw [ast_nest_4_eq, wS (by omega)]
    exact ih (i + 1) (max d x) (by omega) (by omega) (by omega)
   have n2 : ∀ q, ast_nest_2 d (levV n) (l.getD i PZ).2.2.2 l (l.length : Int) (i : Int) q n = some (cond (decide (n.1 = 9) || decide (levV n = 6)) (nst (levV n) (decide (n.1 = 9)) (i + 1) (l.drop (i + 1)) (max d (cond q ((l.getD i PZ).2.2.2 + 1) (l.getD i PZ).2.2.2)) + 1) (nst (levV n) (decide (n.1 = 9)) (i + 1) (l.drop (i + 1)) (max d (cond q ((l.getD i PZ).2.2.2 + 1) (l.getD i PZ).2.2.2)))) := fun q => by
    rw [ast_nest_2_eq, w64 (x := (l.getD i PZ).2.2.2 + 1) (by omega) (by omega), n4 _ (by omega) (by omega), n4 _ (by omega) (by omega)]
    cases q <;> rfl
   rw [ast_nest_1_eq, cT (decide_eq_true (by omega)), cT (ix hi), Int.toNat_natCast]
   show cond (!decide (n.1 = 9)) (cond (decide ((l.getD i PZ).2.2.1 < levV n)) (ast_nest_2 d (levV n) (l.getD i PZ).2.2.2 l (l.length : Int) (i : Int) true n) (cond (decide ((i : Int) = 1)) (ast_nest_2 d (levV n) (l.getD i PZ).2.2.2 l (l.length : Int) (i : Int) (decide ((l.getD i PZ).2.2.1 = levV n)) n) (ast_nest_2 d (levV n) (l.getD i PZ).2.2.2 l (l.length : Int) (i : Int) false n))) (ast_nest_2 d (levV n) (l.getD i PZ).2.2.2 l (l.length : Int) (i : Int) false n) = _
   rw [n2, n2, n2, pdrop hi]
   simp only [nst]
   rw [show decide ((i : Int) = 1) = decide (i = 1) from decide_eq_decide.2 (by omega)]
   generalize l.getD i PZ = p
   generalize l.drop (i + 1) = r
   have : ∀ q q' : Bool, q = q' → (some (cond (decide (n.1 = 9) || decide (levV n = 6)) (nst (levV n) (decide (n.1 = 9)) (i + 1) r (max d (cond q (p.2.2.2 + 1) p.2.2.2)) + 1) (nst (levV n) (decide (n.1 = 9)) (i + 1) r (max d (cond q (p.2.2.2 + 1) p.2.2.2)))) : Option Int) = some (cond (decide (n.1 = 9) || decide (levV n = 6)) (nst (levV n) (decide (n.1 = 9)) (i + 1) r (max d (cond q' (p.2.2.2 + 1) p.2.2.2)) + 1) (nst (levV n) (decide (n.1 = 9)) (i + 1) r (max d (cond q' (p.2.2.2 + 1) p.2.2.2)))) := fun q q' h => by rw [h]
   unfold deepB
   cases h9 : decide (n.1 = 9)
   ·cases h1 : decide (p.2.2.1 < levV n)
    ·cases h2 : decide (i = 1)
     ·simp
     ·simp
    ·simp
   ·simp
 rw [ast_nest_eq, xLev, Option.bind_some]
 have := loop l.length 0 0 (Nat.zero_add _) (Int.le_refl _) (by omega)
 rw [List.drop_zero] at this
 exact this
def callN (n : Nd) : Bool := decide (n.1 = 9) && decide (n.2.2.2.1 > 0)
def topN (f : Fmu) (m : Nat) (w : List Pt) : List Pt := w.drop (w.length - (kd f m).length)
def newP (f : Fmu) (m : Nat) (w : List Pt) : Pt := ((m : Int), cond (decide (0 < (kd f m).length)) ((w.getD (w.length - (kd f m).length) PZ).2.1) (m : Int), levV (nd f m), nestV (nd f m) (topN f m w))
def okS (f : Fmu) (m : Nat) (w : List Pt) (u : Int) : Prop :=
 canV (nd f m) = true ∧ (kv (nd f m) f.2).2 = true ∧ (kd f m).length ≤ w.length ∧ (topN f m w).map (·.1) = kd f m ∧ (callN (nd f m) = true → (nd f m).2.2.1 = u)
def nextU (f : Fmu) (m : Nat) (u : Int) : Int := cond (callN (nd f m)) (u + (nd f m).2.2.2.1) u
def nextW (f : Fmu) (m : Nat) (w : List Pt) : List Pt := w.take (w.length - (kd f m).length) ++ [newP f m w]
noncomputable def stepF (f : Fmu) (m : Nat) (w : List Pt) (u : Int) : Option (List Pt × Int) := open Classical in if okS f m w u then some (nextW f m w, nextU f m u) else none
theorem stepF_yes {f : Fmu} {m : Nat} {w : List Pt} {u : Int} (h : okS f m w u) : stepF f m w u = some (nextW f m w, nextU f m u) := by unfold stepF; exact if_pos h
theorem stepF_no {f : Fmu} {m : Nat} {w : List Pt} {u : Int} (h : ¬ okS f m w u) : stepF f m w u = none := by unfold stepF; exact if_neg h
structure Bd (m : Nat) (w : List Pt) (u : Int) : Prop where
 len : w.length ≤ m
 nest : ∀ p ∈ w, 0 ≤ p.2.2.2 ∧ p.2.2.2 ≤ 2 * (m : Int)
 lo : 0 ≤ u
 hi : u ≤ 20 * (m : Int)
theorem callN_can {n : Nd} (h : canV n = true) (hc : callN n = true) : n.1 = 9 ∧ 0 < n.2.2.2.1 ∧ n.2.2.2.1 ≤ 20 := by
 unfold callN at hc
 simp only [Bool.and_eq_true, decide_eq_true_eq] at hc
 have := can_arg h hc.1
 omega
theorem Bd.step {f : Fmu} {m : Nat} {w : List Pt} {u : Int} (h : Bd m w u) (ho : okS f m w u) : Bd (m + 1) (nextW f m w) (nextU f m u) := by
 obtain ⟨o1, o2, o3, o4, o5⟩ := ho
 have hl := h.len
 refine ⟨?_, fun p hp => ?_, ?_, ?_⟩
 ·unfold nextW; simp; omega
 ·unfold nextW at hp
  rw [List.mem_append] at hp
  rcases hp with hp | hp
  ·have := h.nest p (List.mem_of_mem_take hp)
   omega
  ·simp only [List.mem_singleton] at hp
   subst hp
   have := nestV_bd (n := nd f m) (l := topN f m w) (M := 2 * (m : Int)) (by omega) fun p hp => h.nest p (List.mem_of_mem_drop hp)
   show 0 ≤ nestV (nd f m) (topN f m w) ∧ nestV (nd f m) (topN f m w) ≤ _
   omega
 ·unfold nextU
  have := h.lo
  cases hc : callN (nd f m) with
  | false => exact this
  | true => have := callN_can o1 hc; simp only [cond_true]; omega
 ·unfold nextU
  have := h.hi
  cases hc : callN (nd f m) with
  | false => simp only [cond_false]; omega
  | true => have := callN_can o1 hc; simp only [cond_true]; omega
theorem xStep (f : Fmu) (hf : f.1.length ≤ 400) (hA : f.2.length ≤ 1000) (hs : ∀ n ∈ f.1, n.2.2.2.2.2.1.length ≤ 9223372036854775807) {m : Nat} (hm : m < f.1.length) {w : List Pt} {u : Int} (hb : Bd m w u) :
  ast_built_1 u f.1 (f.1.length : Int) (m : Int) w f (0, 0, 0, 0) = match stepF f m w u with
   | none => some (PZ, false)
   | some s => ast_built_1 s.2 f.1 (f.1.length : Int) ((m + 1 : Nat) : Int) s.1 f (0, 0, 0, 0) := by
 have hwl := hb.len
 have hu0 := hb.lo
 have hu1 := hb.hi
 have hsn : (nd f m).2.2.2.2.2.1.length ≤ 9223372036854775807 := hs _ (by unfold nd; rw [List.getD_eq_getElem?_getD, List.getElem?_eq_getElem hm]; exact List.getElem_mem hm)
 rw [ast_built_1_eq, cT (decide_eq_true (by omega)), cT (ix hm), Int.toNat_natCast]
 show (ast_may (nd f m)).bind (fun v1 => cond (!v1) (some (PZ, false)) ((ast_kids (nd f m) f.2).bind fun v2 => cond (!v2.2) (ast_built_2 u (m : Int) v2.1 (IntKind.i64.wrap ((w.length : Int) - (v2.1.length : Int))) f.1 (f.1.length : Int) (m : Int) true w f (0, 0, 0, 0) (nd f m)) (ast_built_2 u (m : Int) v2.1 (IntKind.i64.wrap ((w.length : Int) - (v2.1.length : Int))) f.1 (f.1.length : Int) (m : Int) (decide ((IntKind.i64.wrap ((w.length : Int) - (v2.1.length : Int))) < 0)) w f (0, 0, 0, 0) (nd f m)))) = _
 rw [xCan _ hsn, Option.bind_some]
 cases hc : canV (nd f m) with
 | false =>
  rw [stepF_no (fun h => by have := h.1; rw [hc] at this; cases this)]; rfl
 | true =>
 rw [Bool.not_true, cond_false, xKids _ _ hA (fun h9 => by have := can_arg hc h9; omega), Option.bind_some]
 have b2 : ∀ c, ast_built_2 u (m : Int) (kd f m) c f.1 (f.1.length : Int) (m : Int) true w f (0, 0, 0, 0) (nd f m) = some (PZ, false) := fun c => by rw [ast_built_2_eq, cond_true]; rfl
 show cond (!(kv (nd f m) f.2).2) (ast_built_2 u (m : Int) (kd f m) _ f.1 (f.1.length : Int) (m : Int) true w f (0, 0, 0, 0) (nd f m)) (ast_built_2 u (m : Int) (kd f m) (IntKind.i64.wrap ((w.length : Int) - ((kd f m).length : Int))) f.1 (f.1.length : Int) (m : Int) (decide ((IntKind.i64.wrap ((w.length : Int) - ((kd f m).length : Int))) < 0)) w f (0, 0, 0, 0) (nd f m)) = _
 cases ht : (kv (nd f m) f.2).2 with
 | false =>
  rw [Bool.not_false, cond_true, b2, stepF_no (fun h => by have := h.2.1; rw [ht] at this; cases this)]
 | true =>
 have hkl := kd_len f hA m
 rw [Bool.not_true, cond_false, w64 (x := (w.length : Int) - ((kd f m).length : Int)) (by omega) (by omega)]
 by_cases hlen : (kd f m).length ≤ w.length
 case neg =>
  rw [decide_eq_true (by omega), b2, stepF_no (fun h => hlen h.2.2.1)]
 obtain ⟨c, hcw⟩ : ∃ c : Nat, w.length = c + (kd f m).length := ⟨w.length - (kd f m).length, by omega⟩
 have hcc : w.length - (kd f m).length = c := by omega
 rw [decide_eq_false (by omega), show (w.length : Int) - ((kd f m).length : Int) = (c : Int) by omega, ast_built_2_eq, cond_false]
 have b7 : ∀ (u' : Int) (p : Pt), ast_built_7 u' (c : Int) f.1 (f.1.length : Int) (m : Int) w f (0, 0, 0, 0) p = ast_built_1 u' f.1 (f.1.length : Int) ((m + 1 : Nat) : Int) (w.take c ++ [p]) f (0, 0, 0, 0) := fun u' p => by
  have in7 : (decide (0 ≤ (c : Int)) && decide ((c : Int) ≤ (w.length : Int))) = true := by simp; omega
  have room : Nat.ble ((((c : Int).toNat - 0) + [p].length) * 32) 140737488355328 = true := Nat.ble_eq_true_of_le (by rw [Int.toNat_natCast]; simp; omega)
  rw [ast_built_7_eq, cT in7, cT room, wS (by omega), Int.toNat_natCast, Nat.sub_zero]
 have b6 : ∀ u' : Int, ast_built_6 u' (m : Int) (kd f m) (c : Int) f.1 (f.1.length : Int) (m : Int) w f (0, 0, 0, 0) (nd f m) = ast_built_1 u' f.1 (f.1.length : Int) ((m + 1 : Nat) : Int) (nextW f m w) f (0, 0, 0, 0) := fun u' => by
  have in6 : (decide (0 ≤ (c : Int)) && decide ((c : Int) ≤ (w.length : Int))) = true := by simp; omega
  have htk : (w.drop c).take (w.length - c) = topN f m w := by
   rw [List.take_of_length_le (by rw [List.length_drop]; omega)]
   unfold topN; rw [hcc]
  rw [ast_built_6_eq, xLev, Option.bind_some, cT in6, Int.toNat_natCast, htk, xNest _ _ (by unfold topN; rw [List.length_drop]; omega) (fun p hp => by
   have := hb.nest p (List.mem_of_mem_drop hp); omega), Option.bind_some, b7, b7]
  unfold nextW newP
  rw [hcc, show decide (((kd f m).length : Int) > 0) = decide (0 < (kd f m).length) from decide_eq_decide.2 (by omega)]
  cases hz : decide (0 < (kd f m).length) with
  | false => rfl
  | true =>
   have := of_decide_eq_true hz
   rw [cond_true, cT (ix (show c < w.length by omega))]; rfl
 have bE : ∀ q, callN (nd f m) = q → ast_built_5 u (m : Int) (kd f m) (c : Int) f.1 (f.1.length : Int) (m : Int) q w f (0, 0, 0, 0) (nd f m) = cond (!q || decide ((nd f m).2.2.1 = u)) (ast_built_1 (nextU f m u) f.1 (f.1.length : Int) ((m + 1 : Nat) : Int) (nextW f m w) f (0, 0, 0, 0)) (some (PZ, false)) := fun q hq => by
  rw [ast_built_5_eq, b6, b6, nextU, hq]
  cases q with
  | false => rfl
  | true =>
   have := callN_can hc hq
   rw [w64 (x := u + (nd f m).2.2.2.1) (by omega) (by omega)]
   cases decide ((nd f m).2.2.1 = u) <;> rfl
 have bT : cond (decide ((nd f m).1 = 9)) (ast_built_5 u (m : Int) (kd f m) (c : Int) f.1 (f.1.length : Int) (m : Int) (decide ((nd f m).2.2.2.1 > 0)) w f (0, 0, 0, 0) (nd f m)) (ast_built_5 u (m : Int) (kd f m) (c : Int) f.1 (f.1.length : Int) (m : Int) false w f (0, 0, 0, 0) (nd f m)) = cond (!callN (nd f m) || decide ((nd f m).2.2.1 = u)) (ast_built_1 (nextU f m u) f.1 (f.1.length : Int) ((m + 1 : Nat) : Int) (nextW f m w) f (0, 0, 0, 0)) (some (PZ, false)) := by
  cases h9 : decide ((nd f m).1 = 9) with
  | false =>
   have : callN (nd f m) = false := by unfold callN; rw [h9]; rfl
   rw [cond_false, bE false this, this]
  | true =>
   have : callN (nd f m) = decide ((nd f m).2.2.2.1 > 0) := by unfold callN; rw [h9]; rfl
   rw [cond_true, bE _ this, this]
 have loop : ∀ (k' k : Nat), k + k' = (kd f m).length → ((w.drop (c + k)).map (·.1) = (kd f m).drop k → ast_built_4 u (m : Int) (kd f m) (c : Int) f.1 (f.1.length : Int) (m : Int) (kd f m) ((kd f m).length : Int) (k : Int) w f (0, 0, 0, 0) (nd f m) = cond (!callN (nd f m) || decide ((nd f m).2.2.1 = u)) (ast_built_1 (nextU f m u) f.1 (f.1.length : Int) ((m + 1 : Nat) : Int) (nextW f m w) f (0, 0, 0, 0)) (some (PZ, false))) ∧
   (¬ (w.drop (c + k)).map (·.1) = (kd f m).drop k → ast_built_4 u (m : Int) (kd f m) (c : Int) f.1 (f.1.length : Int) (m : Int) (kd f m) ((kd f m).length : Int) (k : Int) w f (0, 0, 0, 0) (nd f m) = some (PZ, false)) := by
  intro k'
  induction k' with
  | zero =>
   intro k hk
   refine ⟨fun _ => ?_, fun hn => ?_⟩
   ·rw [ast_built_4_eq, cF (decide_eq_false (by omega))]; exact bT
   ·exfalso; apply hn
    rw [List.drop_of_length_le (by omega), List.drop_of_length_le (by omega)]; rfl
  | succ k' ih =>
   intro k hk
   have hkk : k < (kd f m).length := by omega
   have hck : c + k < w.length := by omega
   obtain ⟨i1, i2⟩ := ih (k + 1) (by omega)
   have hdl : (kd f m).drop k = (kd f m).getD k 0 :: (kd f m).drop (k + 1) := by
    rw [List.drop_eq_getElem_cons hkk, List.getD_eq_getElem?_getD, List.getElem?_eq_getElem hkk]; rfl
   have hdw := pdrop hck
   rw [hdw, hdl, List.map_cons]
   have e : ast_built_4 u (m : Int) (kd f m) (c : Int) f.1 (f.1.length : Int) (m : Int) (kd f m) ((kd f m).length : Int) (k : Int) w f (0, 0, 0, 0) (nd f m) = cond (!decide ((w.getD (c + k) PZ).1 = (kd f m).getD k 0)) (some (PZ, false)) (ast_built_4 u (m : Int) (kd f m) (c : Int) f.1 (f.1.length : Int) (m : Int) (kd f m) ((kd f m).length : Int) ((k + 1 : Nat) : Int) w f (0, 0, 0, 0) (nd f m)) := by
    rw [ast_built_4_eq, cT (decide_eq_true (by omega)), cT (ix hkk), show (c : Int) + (k : Int) = ((c + k : Nat) : Int) by omega, w64 (x := ((c + k : Nat) : Int)) (by omega) (by omega), cT (ix hck), Int.toNat_natCast, Int.toNat_natCast, wS (by omega)]; rfl
   rw [e]
   by_cases hx : (w.getD (c + k) PZ).1 = (kd f m).getD k 0
   ·rw [cF (by rw [decide_eq_true hx]; rfl)]
    refine ⟨fun h => i1 ?_, fun h => i2 fun h' => h ?_⟩
    ·exact (List.cons.inj h).2
    ·rw [hx]; congr 1
   ·rw [cT (by rw [decide_eq_false hx]; rfl)]
    exact ⟨fun h => absurd (List.cons.inj h).1 hx, fun _ => rfl⟩
 obtain ⟨l1, l2⟩ := loop (kd f m).length 0 (Nat.zero_add _)
 rw [Nat.add_zero, List.drop_zero] at l1 l2
 have htop : w.drop c = topN f m w := by unfold topN; rw [hcc]
 rw [htop] at l1 l2
 by_cases hmt : (topN f m w).map (·.1) = kd f m
 ·refine (l1 hmt).trans ?_
  by_cases hcl : callN (nd f m) = true → (nd f m).2.2.1 = u
  ·rw [stepF_yes ⟨hc, ht, hlen, hmt, hcl⟩]
   have : (!callN (nd f m) || decide ((nd f m).2.2.1 = u)) = true := by
    cases h : callN (nd f m) with
    | false => rfl
    | true => rw [decide_eq_true (hcl h)]; rfl
   rw [this]; rfl
  ·rw [stepF_no fun h => hcl h.2.2.2.2]
   have : (!callN (nd f m) || decide ((nd f m).2.2.1 = u)) = false := by
    cases h : callN (nd f m) with
    | false => exact absurd (fun h' => by rw [h] at h'; cases h') hcl
    | true =>
     by_cases h' : (nd f m).2.2.1 = u
     ·exact absurd (fun _ => h') hcl
     ·rw [decide_eq_false h']; rfl
   rw [this]; rfl
 ·rw [stepF_no fun h => hmt h.2.2.2.1]
  exact l2 hmt
noncomputable def runS (f : Fmu) : Nat → Nat → List Pt → Int → Option (List Pt × Int)
 | _, 0, w, u => some (w, u)
 | m, k + 1, w, u => (stepF f m w u).bind fun s => runS f (m + 1) k s.1 s.2
theorem runS_add (f : Fmu) : ∀ (k m l : Nat) (w : List Pt) (u : Int), runS f m (k + l) w u = (runS f m k w u).bind fun s => runS f (m + k) l s.1 s.2
 | 0, m, l, w, u => by simp [runS]
 | k + 1, m, l, w, u => by
  rw [show k + 1 + l = (k + l) + 1 by omega]
  simp only [runS]
  cases stepF f m w u with
  | none => rfl
  | some s =>
   simp only [Option.bind_some]
   rw [runS_add f k (m + 1) l s.1 s.2, show m + 1 + k = m + (k + 1) by omega]
def finS (f : Fmu) : Option (List Pt × Int) → Pt × Bool
 | none => (PZ, false)
 | some s => cond (decide (s.1.length = 1) && decide (s.2 = (f.2.length : Int))) (s.1.getD 0 PZ, true) (PZ, false)
theorem xRun (f : Fmu) (hf : f.1.length ≤ 400) (hA : f.2.length ≤ 1000) (hs : ∀ n ∈ f.1, n.2.2.2.2.2.1.length ≤ 9223372036854775807) : ∀ (k m : Nat) (w : List Pt) (u : Int), m + k = f.1.length → Bd m w u → ast_built_1 u f.1 (f.1.length : Int) (m : Int) w f (0, 0, 0, 0) = some (finS f (runS f m k w u))
 | 0, m, w, u, h, hb => by
  rw [ast_built_1_eq, cF (decide_eq_false (by omega))]
  simp only [runS, finS]
  have b3 : ∀ q, w.length = 1 → ast_built_3 q w (0, 0, 0, 0) = some (cond q (PZ, false) (w.getD 0 PZ, true)) := fun q hw => by
   rw [ast_built_3_eq, hw]
   cases q <;> rfl
  have b3t : ast_built_3 true w (0, 0, 0, 0) = some (PZ, false) := by rw [ast_built_3_eq, cond_true]; rfl
  rw [b3t, show decide ((w.length : Int) = 1) = decide (w.length = 1) from decide_eq_decide.2 (by omega)]
  by_cases hw : w.length = 1
  ·rw [decide_eq_true hw, b3 _ hw]
   cases decide (u = (f.2.length : Int)) <;> rfl
  ·rw [decide_eq_false hw]; rfl
 | k + 1, m, w, u, h, hb => by
  rw [xStep f hf hA hs (by omega) hb]
  simp only [runS]
  by_cases ho : okS f m w u
  ·rw [stepF_yes ho]
   simp only [Option.bind_some]
   exact xRun f hf hA hs k (m + 1) _ _ (by omega) (hb.step ho)
  ·rw [stepF_no ho]; rfl
theorem xBuilt (f : Fmu) (hf : f.1.length ≤ 400) (hA : f.2.length ≤ 1000) (hs : ∀ n ∈ f.1, n.2.2.2.2.2.1.length ≤ 9223372036854775807) : ast_built f = some (finS f (runS f 0 f.1.length [] 0)) := by
 rw [ast_built_eq]
 exact xRun f hf hA hs f.1.length 0 [] 0 (Nat.zero_add _) ⟨by simp, (fun p hp => by cases hp), Int.le_refl _, by omega⟩
end Go.Proofs.YtgnkkanhjghhfaaGreatDoor.D
namespace Go.Proofs.YtgnkkanhjghhfaaGreatDoor.D
open Go Go.Proofs.YtgnkkanhjghhfaaGreatDoor.K
open Go.Proofs.YtgnkkanhjghhfaaGreatDoor.P (wS)
def braB (f : Fmu) (own : Int) (call bin : Bool) (i : Nat) (x : Int) : Bool := !call && (decide (levV (nd f x.toNat) < own) || (bin && (decide (i = 1) && decide (levV (nd f x.toNat) = own))))
def dst (f : Fmu) (own : Int) (call bin : Bool) (out : List Int) : Nat → List Int → Int → Int
 | _, [], d => d
 | i, x :: r, d => dst f own call bin out (i + 1) r (max d (cond (braB f own call bin i x) (out.getD x.toNat 0 + 1) (out.getD x.toNat 0)))
def dvB (f : Fmu) (m : Nat) (out : List Int) : Int := dst f (levV (nd f m)) (decide ((nd f m).1 = 9)) (decide ((nd f m).1 = 8)) out 0 (kd f m) 0
def dv (f : Fmu) (m : Nat) (out : List Int) : Int := cond (decide ((nd f m).1 = 9) || (decide ((nd f m).1 = 7) && decide ((nd f m).2.1 = 13))) (dvB f m out + 1) (dvB f m out)
def dl (f : Fmu) : Nat → List Int
 | 0 => []
 | m + 1 => dl f m ++ [dv f m (dl f m)]
theorem dl_len (f : Fmu) : ∀ m, (dl f m).length = m
 | 0 => rfl
 | m + 1 => by simp [dl, dl_len f m]
theorem dl_get (f : Fmu) : ∀ {m k : Nat}, k < m → (dl f m).getD k 0 = dv f k (dl f k)
 | 0, k, h => by omega
 | m + 1, k, h => by
  simp only [dl]
  rw [List.getD_eq_getElem?_getD]
  by_cases hk : k < m
  ·rw [List.getElem?_append_left (by rw [dl_len]; exact hk), ← List.getD_eq_getElem?_getD]
   exact dl_get f hk
  ·have : k = m := by omega
   subst this
   rw [List.getElem?_append_right (by rw [dl_len]; exact Nat.le_refl _), dl_len, Nat.sub_self]; rfl
theorem dst_bd {f : Fmu} {own : Int} {call bin : Bool} {out : List Int} {M : Int} (ho : ∀ k, 0 ≤ out.getD k 0 ∧ out.getD k 0 ≤ M) : ∀ (l : List Int) (i : Nat) (d : Int), 0 ≤ d → d ≤ M + 1 → 0 ≤ dst f own call bin out i l d ∧ dst f own call bin out i l d ≤ M + 1
 | [], _, d, h0, h1 => ⟨h0, h1⟩
 | x :: r, i, d, h0, h1 => by
  have := ho x.toNat
  simp only [dst]
  refine dst_bd ho r (i + 1) _ (by omega) ?_
  cases braB f own call bin i x
  ·simp only [cond_false]; omega
  ·simp only [cond_true]; omega
theorem dl_bd (f : Fmu) : ∀ (m k : Nat), 0 ≤ (dl f m).getD k 0 ∧ (dl f m).getD k 0 ≤ 2 * (m : Int)
 | 0, k => by simp [dl]
 | m + 1, k => by
  by_cases hk : k < m
  ·have := dl_bd f m k
   rw [dl_get f hk] at this
   rw [dl_get f (show k < m + 1 by omega)]
   omega
  ·by_cases he : k = m
   ·subst he
    rw [dl_get f (Nat.lt_succ_self k)]
    have := dst_bd (f := f) (own := levV (nd f k)) (call := decide ((nd f k).1 = 9)) (bin := decide ((nd f k).1 = 8)) (out := dl f k) (M := 2 * (k : Int)) (fun j => dl_bd f k j) (kd f k) 0 0 (Int.le_refl _) (by omega)
    unfold dv dvB
    cases decide ((nd f k).1 = 9) || (decide ((nd f k).1 = 7) && decide ((nd f k).2.1 = 13))
    ·simp only [cond_false]; omega
    ·simp only [cond_true]; omega
   ·rw [List.getD_eq_getElem?_getD, List.getElem?_eq_none (by rw [dl_len]; omega)]
    simp only [Option.getD_none]; omega
def PtOk (f : Fmu) (m : Nat) (p : Pt) : Prop := ∃ k : Nat, p.1 = (k : Int) ∧ k < m ∧ p.2.2.1 = levV (nd f k) ∧ p.2.2.2 = dv f k (dl f k)
theorem nst_dst {f : Fmu} {m : Nat} {own : Int} {call bin : Bool} : ∀ (ps : List Pt) (i : Nat) (d : Int), (∀ p ∈ ps, PtOk f m p) → (2 ≤ i + ps.length → (call || bin) = true) → nst own call i ps d = dst f own call bin (dl f m) i (ps.map (·.1)) d
 | [], _, _, _, _ => rfl
 | p :: ps, i, d, hp, hb => by
  obtain ⟨k, h1, h2, h3, h4⟩ := hp p (by simp)
  simp only [nst, List.map_cons, dst]
  have e1 : (dl f m).getD p.1.toNat 0 = p.2.2.2 := by rw [h1, Int.toNat_natCast, dl_get f h2, h4]
  have e2 : levV (nd f p.1.toNat) = p.2.2.1 := by rw [h1, Int.toNat_natCast, h3]
  have e3 : deepB own call i p.2.2.1 = braB f own call bin i p.1 := by
   unfold deepB braB
   rw [e2]
   by_cases hi : i = 1
   ·have := hb (by simp; omega)
    cases call
    ·rw [Bool.false_or] at this; rw [this]; simp
    ·rfl
   ·rw [decide_eq_false hi]; simp
  rw [e1, e3]
  exact nst_dst ps (i + 1) _ (fun q hq => hp q (by simp [hq])) (fun h => hb (by simp; omega))
theorem lev6 (n : Nd) : decide (levV n = 6) = (decide (n.1 = 7) && decide (n.2.1 = 13)) := by
 unfold levV
 by_cases h7 : n.1 = 7
 ·rw [if_pos h7, decide_eq_true h7, Bool.true_and]
  by_cases h13 : n.2.1 = 13
  ·rw [if_pos h13, decide_eq_true h13]; rfl
  ·rw [if_neg h13, decide_eq_false h13]
   split <;> rfl
 ·rw [if_neg h7, decide_eq_false h7, Bool.false_and]
  repeat' (first | rfl | split)
theorem kd_two {f : Fmu} {m : Nat} (h : 2 ≤ (kd f m).length) : (decide ((nd f m).1 = 9) || decide ((nd f m).1 = 8)) = true := by
 unfold kd kv at h
 by_cases h7 : (nd f m).1 = 7
 ·rw [decide_eq_true h7] at h; simp at h
 ·rw [decide_eq_false h7] at h
  cases h8 : decide ((nd f m).1 = 8)
  ·rw [h8] at h
   cases h9 : decide ((nd f m).1 = 9)
   ·rw [h9] at h; simp at h
   ·rfl
  ·simp
theorem nest_dv {f : Fmu} {m : Nat} {ps : List Pt} (hp : ∀ p ∈ ps, PtOk f m p) (hm : ps.map (·.1) = kd f m) : nestV (nd f m) ps = dv f m (dl f m) := by
 have hl : ps.length = (kd f m).length := by rw [← hm, List.length_map]
 unfold nestV dv dvB
 rw [lev6, nst_dst (bin := decide ((nd f m).1 = 8)) ps 0 0 hp (fun h => kd_two (by omega)), hm]
def cls (f : Fmu) : Nat → Option Int
 | 0 => some 0
 | m + 1 => (cls f m).bind fun u => cond (callN (nd f m)) (cond (decide ((nd f m).2.2.1 = u)) (some (u + (nd f m).2.2.2.1)) none) (some u)
theorem cls_none (f : Fmu) {i : Nat} (h : cls f i = none) : ∀ k, cls f (i + k) = none
 | 0 => h
 | k + 1 => by rw [← Nat.add_assoc]; simp only [cls]; rw [cls_none f h k]; rfl
theorem cls_pre (f : Fmu) {n : Nat} {v : Int} (h : cls f n = some v) {i : Nat} (hi : i ≤ n) : ∃ u, cls f i = some u := by
 cases hc : cls f i with
 | some u => exact ⟨u, rfl⟩
 | none =>
  have := cls_none f hc (n - i)
  rw [show i + (n - i) = n by omega, h] at this; cases this
theorem cls_next {f : Fmu} {m : Nat} {u : Int} (h : cls f m = some u) (hc : callN (nd f m) = true → (nd f m).2.2.1 = u) : cls f (m + 1) = some (nextU f m u) := by
 simp only [cls, h, Option.bind_some, nextU]
 cases hb : callN (nd f m) with
 | false => rfl
 | true => rw [decide_eq_true (hc hb)]; rfl
theorem cls_back {f : Fmu} {m : Nat} {u v : Int} (h : cls f m = some u) (h' : cls f (m + 1) = some v) : (callN (nd f m) = true → (nd f m).2.2.1 = u) ∧ v = nextU f m u := by
 simp only [cls, h, Option.bind_some] at h'
 cases hb : callN (nd f m) with
 | false => rw [hb] at h'; exact ⟨fun h => (by cases h), by unfold nextU; rw [hb]; exact (Option.some.inj h').symm⟩
 | true =>
  rw [hb] at h'
  by_cases ha : (nd f m).2.2.1 = u
  ·rw [decide_eq_true ha] at h'
   exact ⟨fun _ => ha, by unfold nextU; rw [hb]; exact (Option.some.inj h').symm⟩
  ·rw [decide_eq_false ha] at h'; cases h'
theorem callN_len {f : Fmu} {m : Nat} (hc : callN (nd f m) = true) (ht : (kv (nd f m) f.2).2 = true) : ((kd f m).length : Int) = (nd f m).2.2.2.1 := by
 unfold callN at hc
 simp only [Bool.and_eq_true, decide_eq_true_eq] at hc
 obtain ⟨h9, hb⟩ := hc
 unfold kd
 unfold kv at ht ⊢
 rw [decide_eq_false (show ¬ (nd f m).1 = 7 by omega), decide_eq_false (show ¬ (nd f m).1 = 8 by omega), decide_eq_true h9, decide_eq_true hb] at ht ⊢
 simp only [cond_true, cond_false] at ht ⊢
 cases ho : oddK (nd f m) f.2 with
 | true => rw [ho] at ht; cases ht
 | false =>
  have := oddK_false ho
  simp only [cond_false, List.length_drop, List.length_take]
  omega
def sumK (f : Fmu) : Nat → Nat
 | 0 => 0
 | m + 1 => sumK f m + (kd f m).length
theorem Fo.sum {f : Fmu} {a b : Nat} {ks : List Int} (h : Fo (kd f) a b ks) : sumK f b + ks.length = sumK f a + (b - a) := by
 induction h with
 | nil a => simp
 | @cons a k b ks h1 h2 ih1 ih2 =>
  have l1 := h1.le
  have l2 := h2.le
  simp only [sumK] at ih2
  simp only [List.length_cons]
  omega
theorem cls_sum {f : Fmu} : ∀ {m : Nat} {u : Int}, (∀ j, j < m → (kv (nd f j) f.2).2 = true) → cls f m = some u → u ≤ (sumK f m : Int)
 | 0, u, _, h => by cases h; simp [sumK]
 | m + 1, u, ht, h => by
  obtain ⟨v, hv⟩ := cls_pre f h (Nat.le_succ m)
  have ih := cls_sum (fun j hj => ht j (by omega)) hv
  obtain ⟨_, rfl⟩ := cls_back hv h
  unfold nextU
  simp only [sumK]
  cases hb : callN (nd f m) with
  | false => simp only [cond_false]; omega
  | true =>
   have := callN_len hb (ht m (by omega))
   simp only [cond_true]; omega
structure Sd (f : Fmu) (m : Nat) (w : List Pt) (u : Int) : Prop where
 fo : Fo (kd f) 0 m (w.map (·.1))
 pt : ∀ p ∈ w, PtOk f m p
 cl : cls f m = some u
 all : ∀ j, j < m → canV (nd f j) = true ∧ (kv (nd f j) f.2).2 = true
theorem PtOk.up {f : Fmu} {m : Nat} {p : Pt} (h : PtOk f m p) : PtOk f (m + 1) p := by
 obtain ⟨k, h1, h2, h3⟩ := h
 exact ⟨k, h1, by omega, h3⟩
theorem Sd.step {f : Fmu} {m : Nat} {w : List Pt} {u : Int} (h : Sd f m w u) (ho : okS f m w u) : Sd f (m + 1) (nextW f m w) (nextU f m u) := by
 obtain ⟨o1, o2, o3, o4, o5⟩ := ho
 have hw : w = w.take (w.length - (kd f m).length) ++ topN f m w := (List.take_append_drop _ w).symm
 have hfo := h.fo
 rw [hw, List.map_append, o4] at hfo
 obtain ⟨b, f1, f2⟩ := hfo.split
 refine ⟨?_, fun p hp => ?_, cls_next h.cl o5, fun j hj => ?_⟩
 ·unfold nextW
  rw [List.map_append]
  exact f1.append (.cons f2 (.nil (m + 1)))
 ·unfold nextW at hp
  rw [List.mem_append] at hp
  rcases hp with hp | hp
  ·exact (h.pt p (List.mem_of_mem_take hp)).up
  ·simp only [List.mem_singleton] at hp
   subst hp
   exact ⟨m, rfl, Nat.lt_succ_self m, rfl, nest_dv (fun p hp => h.pt p (List.mem_of_mem_drop hp)) o4⟩
 ·by_cases hjm : j < m
  ·exact h.all j hjm
  ·have : j = m := by omega
   subst this; exact ⟨o1, o2⟩
theorem Sd.run {f : Fmu} : ∀ (k m : Nat) (w : List Pt) (u : Int), Sd f m w u → ∀ s, runS f m k w u = some s → Sd f (m + k) s.1 s.2
 | 0, m, w, u, h, s, hs => by simp only [runS, Option.some.injEq] at hs; subst hs; exact h
 | k + 1, m, w, u, h, s, hs => by
  simp only [runS] at hs
  by_cases ho : okS f m w u
  ·rw [stepF_yes ho] at hs
   have := Sd.run k (m + 1) _ _ (h.step ho) s hs
   rw [show m + (k + 1) = m + 1 + k by omega]; exact this
  ·rw [stepF_no ho] at hs; cases hs
structure Good (f : Fmu) : Prop where
 one : 1 ≤ f.1.length
 can : ∀ j, j < f.1.length → canV (nd f j) = true
 told : ∀ j, j < f.1.length → (kv (nd f j) f.2).2 = true
 fo : Fo (kd f) 0 f.1.length [((f.1.length - 1 : Nat) : Int)]
 cl : cls f f.1.length = some (f.2.length : Int)
theorem good_of {f : Fmu} {p : Pt} (h : finS f (runS f 0 f.1.length [] 0) = (p, true)) : Good f ∧ p.2.2.2 = dv f (f.1.length - 1) (dl f (f.1.length - 1)) ∧ p.1 = ((f.1.length - 1 : Nat) : Int) := by
 cases hr : runS f 0 f.1.length [] 0 with
 | none => rw [hr] at h; cases h
 | some s =>
  obtain ⟨w, u⟩ := s
  rw [hr] at h
  simp only [finS] at h
  by_cases hw : w.length = 1
  ·by_cases hu : u = (f.2.length : Int)
   ·rw [decide_eq_true hw, decide_eq_true hu] at h
    simp only [Bool.and_self, cond_true, Prod.mk.injEq, and_true] at h
    have sd := Sd.run f.1.length 0 [] 0 ⟨.nil 0, (fun p hp => by cases hp), rfl, fun j hj => by omega⟩ (w, u) hr
    rw [Nat.zero_add] at sd
    obtain ⟨q, rfl⟩ : ∃ q, w = [q] := by
     cases w with
     | nil => cases hw
     | cons q w => cases w with
      | nil => exact ⟨q, rfl⟩
      | cons _ _ => simp at hw
    have h : q = p := h
    subst h
    obtain ⟨k, hk1, hk2, hk3, hk4⟩ := sd.pt q (by simp)
    obtain ⟨k', e1, e2, e3⟩ := Fo.one sd.fo
    have hkk : k = k' := by have := hk1.symm.trans e1; omega
    subst hkk
    have hl : f.1.length - 1 = k := by omega
    refine ⟨⟨by omega, fun j hj => (sd.all j hj).1, fun j hj => (sd.all j hj).2, ?_, by rw [← hu]; exact sd.cl⟩, by rw [hl]; exact hk4, by rw [hl]; exact hk1⟩
    rw [hl, ← hk1]; exact sd.fo
   ·rw [decide_eq_false hu, Bool.and_false] at h; cases h
  ·rw [decide_eq_false hw] at h; cases h
theorem comp {f : Fmu} {n : Nat} {v : Int} (hcan : ∀ j, j < n → canV (nd f j) = true) (htold : ∀ j, j < n → (kv (nd f j) f.2).2 = true) (hcl : cls f n = some v) {a b : Nat} {ks : List Int} (h : Fo (kd f) a b ks) :
  b ≤ n → ∀ (w : List Pt) (u : Int), cls f a = some u → ∃ ps u', runS f a (b - a) w u = some (w ++ ps, u') ∧ ps.map (·.1) = ks ∧ cls f b = some u' := by
 induction h with
 | nil a => intro _ w u hu; exact ⟨[], u, by rw [Nat.sub_self]; simp [runS], rfl, hu⟩
 | @cons a k b ks h1 h2 ih1 ih2 =>
  intro hbn w u hu
  have l1 := h1.le
  have l2 := h2.le
  obtain ⟨ps1, u1, r1, m1, c1⟩ := ih1 (by omega) w u hu
  have hlen : ps1.length = (kd f k).length := by rw [← m1, List.length_map]
  obtain ⟨v2, hv2⟩ := cls_pre f hcl (show k + 1 ≤ n by omega)
  obtain ⟨b1, b2⟩ := cls_back c1 hv2
  have hsub : (w ++ ps1).length - (kd f k).length = w.length := by rw [List.length_append]; omega
  have htop : topN f k (w ++ ps1) = ps1 := by unfold topN; rw [hsub, List.drop_left]
  have ho : okS f k (w ++ ps1) u1 := ⟨hcan k (by omega), htold k (by omega), by rw [List.length_append]; omega, by rw [htop]; exact m1, b1⟩
  obtain ⟨ps2, u2, r2, m2, c2⟩ := ih2 hbn (nextW f k (w ++ ps1)) (nextU f k u1) (by rw [← b2]; exact hv2)
  have hnw : nextW f k (w ++ ps1) = w ++ [newP f k (w ++ ps1)] := by unfold nextW; rw [hsub, List.take_left]
  refine ⟨newP f k (w ++ ps1) :: ps2, u2, ?_, by rw [List.map_cons, m2]; rfl, c2⟩
  rw [show b - a = (k - a) + (1 + (b - (k + 1))) by omega, runS_add, r1, Option.bind_some, show a + (k - a) = k by omega, Nat.add_comm 1, runS, stepF_yes ho, Option.bind_some, r2, hnw, List.append_assoc]
  rfl
theorem of_good {f : Fmu} (h : Good f) : ∃ p, finS f (runS f 0 f.1.length [] 0) = (p, true) := by
 obtain ⟨ps, u', r, m, c⟩ := comp h.can h.told h.cl h.fo (Nat.le_refl _) [] 0 rfl
 rw [Nat.sub_zero] at r
 have hu : u' = (f.2.length : Int) := by have := c.symm.trans h.cl; exact Option.some.inj this
 have hl : ps.length = 1 := by have := congrArg List.length m; simpa using this
 refine ⟨ps.getD 0 PZ, ?_⟩
 rw [r]
 simp only [finS, List.nil_append]
 rw [decide_eq_true hl, decide_eq_true hu]; rfl
theorem Good.args {f : Fmu} (h : Good f) : f.2.length ≤ f.1.length := by
 have := h.fo.sum
 have h2 := cls_sum h.told h.cl
 have := h.one
 simp only [List.length_singleton, sumK] at *
 omega
end Go.Proofs.YtgnkkanhjghhfaaGreatDoor.D
