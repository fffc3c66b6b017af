/- Naturals as texts of bytes and as limbs: plain Lean, no program. -/
import Derived.Test.YtcdcijhfjiahkaaDoorRKS
import Derived.Lib.BitFns
import Derived.Lib.ItoaNum
import Derived.Laws.BitsLemmas
set_option linter.unusedVariables false
set_option linter.unusedSimpArgs false
namespace Go.Proofs.YtcdcijhfjiahkaaDoorR.P
open Go

/-! ### a list of bytes, the highest first, as a number -/
def valL (l : List Nat) : Nat := l.foldl (fun n b => n * 256 + b) 0
theorem valL_nil : valL [] = 0 := rfl
theorem foldl_val (l : List Nat) (n : Nat) : l.foldl (fun n b => n * 256 + b) n = n * 256 ^ l.length + valL l := by
  unfold valL
  induction l generalizing n with
  | nil => simp
  | cons a l ih =>
    simp only [List.foldl_cons, List.length_cons]
    rw [ih (n * 256 + a), ih (0 * 256 + a), Nat.pow_succ]
    simp only [Nat.zero_mul, Nat.zero_add, Nat.add_mul]
    rw [Nat.mul_assoc, Nat.mul_comm 256, Nat.add_assoc]
theorem valL_append (a b : List Nat) : valL (a ++ b) = valL a * 256 ^ b.length + valL b := by
  conv => lhs; unfold valL
  rw [List.foldl_append, foldl_val]
  rfl
theorem valL_snoc (a : List Nat) (b : Nat) : valL (a ++ [b]) = valL a * 256 + b := by rw [valL_append]; simp [valL]
theorem valL_cons (b : Nat) (l : List Nat) : valL (b :: l) = b * 256 ^ l.length + valL l := by
  have := valL_append [b] l
  simpa [valL] using this
theorem valL_lt (l : List Nat) (h : ∀ b ∈ l, b < 256) : valL l < 256 ^ l.length := by
  induction l with
  | nil => simp [valL]
  | cons a l ih =>
    rw [valL_cons, List.length_cons, Nat.pow_succ]
    have h1 := ih (fun b hb => h b (List.mem_cons_of_mem _ hb))
    have h2 := h a (List.mem_cons_self ..)
    have h3 : a * 256 ^ l.length ≤ 255 * 256 ^ l.length := Nat.mul_le_mul_right _ (by omega)
    omega

def digsF : Nat → Nat → List Nat
  | 0, _ => []
  | f + 1, n => if n = 0 then [] else digsF f (n / 256) ++ [n % 256]
/-- A number's bytes, none of them a 0 ahead. -/
def digs (n : Nat) : List Nat := digsF n n
theorem digsF_eq : ∀ (f g n : Nat), n ≤ f → n ≤ g → digsF f n = digsF g n
  | 0, g, n, h1, h2 => by
    obtain rfl : n = 0 := by omega
    cases g <;> simp [digsF]
  | f + 1, 0, n, h1, h2 => by
    obtain rfl : n = 0 := by omega
    simp [digsF]
  | f + 1, g + 1, n, h1, h2 => by
    by_cases h : n = 0
    · subst h; simp [digsF]
    · rw [digsF, digsF, if_neg h, if_neg h, digsF_eq f g (n / 256) (by omega) (by omega)]
theorem digs_zero : digs 0 = [] := rfl
theorem digs_pos {n : Nat} (h : n ≠ 0) : digs n = digs (n / 256) ++ [n % 256] := by
  obtain ⟨m, rfl⟩ : ∃ m, n = m + 1 := ⟨n - 1, by omega⟩
  conv => lhs; unfold digs
  rw [digsF, if_neg h, digsF_eq m ((m + 1) / 256) _ (by omega) (Nat.le_refl _)]; rfl
theorem digs_lt (n : Nat) : ∀ b ∈ digs n, b < 256 := by
  induction n using Nat.strongRecOn with
  | _ n ih =>
    by_cases h : n = 0
    · subst h; simp [digs_zero]
    · rw [digs_pos h]
      intro b hb
      rcases List.mem_append.1 hb with hb | hb
      · exact ih (n / 256) (by omega) b hb
      · simp at hb; omega
theorem val_digs (n : Nat) : valL (digs n) = n := by
  induction n using Nat.strongRecOn with
  | _ n ih =>
    by_cases h : n = 0
    · subst h; simp [digs_zero, valL]
    · rw [digs_pos h, valL_snoc, ih (n / 256) (by omega)]; omega
theorem digs_head (n : Nat) : ∀ b l, digs n = b :: l → b ≠ 0 := by
  induction n using Nat.strongRecOn with
  | _ n ih =>
    intro b l e
    by_cases h : n = 0
    · subst h; simp [digs_zero] at e
    · rw [digs_pos h] at e
      by_cases h2 : n / 256 = 0
      · rw [h2, digs_zero] at e
        simp at e
        omega
      · cases hd : digs (n / 256) with
        | nil => exact absurd (by rw [← val_digs (n / 256), hd]; rfl) h2
        | cons c l2 =>
          rw [hd] at e
          simp at e
          rw [← e.1]
          exact ih (n / 256) (by omega) c l2 hd
/-- Bytes 0 ahead fall away. -/
def trimL : List Nat → List Nat
  | [] => []
  | b :: l => if b = 0 then trimL l else b :: l
theorem snoc_ind {P : List Nat → Prop} (h0 : P []) (h1 : ∀ l b, P l → P (l ++ [b])) : ∀ l, P l := by
  intro l
  have : P l.reverse.reverse := by
    induction l.reverse with
    | nil => exact h0
    | cons b l ih => rw [List.reverse_cons]; exact h1 _ _ ih
  rwa [List.reverse_reverse] at this
theorem digs_val (l : List Nat) (h : ∀ b ∈ l, b < 256) : digs (valL l) = trimL l := by
  revert h
  refine snoc_ind (P := fun l => (∀ b ∈ l, b < 256) → digs (valL l) = trimL l) ?_ ?_ l
  · intro _; simp [valL, digs_zero, trimL]
  · intro l b ih h
    have hb : b < 256 := h b (by simp)
    have h' : ∀ x ∈ l, x < 256 := fun x hx => h x (by simp [hx])
    rw [valL_snoc]
    have key : ∀ l : List Nat, trimL (l ++ [b]) = if trimL l = [] then (if b = 0 then [] else [b]) else trimL l ++ [b] := by
      intro l
      induction l with
      | nil => simp [trimL]
      | cons a l ih =>
        simp only [List.cons_append, trimL]
        split
        · exact ih
        · simp
    rw [key]
    by_cases hz : valL l = 0
    · have ht : trimL l = [] := by rw [← ih h', hz, digs_zero]
      rw [hz, ht]
      simp only [Nat.zero_mul, Nat.zero_add, if_true]
      by_cases hb0 : b = 0
      · subst hb0; simp [digs_zero]
      · rw [digs_pos hb0, show b / 256 = 0 by omega, digs_zero, if_neg hb0, show b % 256 = b by omega]; rfl
    · have ht : trimL l ≠ [] := by
        rw [← ih h']
        intro e
        have := val_digs (valL l)
        rw [e] at this
        exact hz this.symm
      rw [if_neg ht, digs_pos (by omega), show (valL l * 256 + b) / 256 = valL l by omega, show (valL l * 256 + b) % 256 = b by omega, ih h']
theorem digs_length_le {n k : Nat} (h : n < 256 ^ k) : (digs n).length ≤ k := by
  induction k generalizing n with
  | zero => have : n = 0 := by simpa using h
            subst this; simp [digs_zero]
  | succ k ih =>
    by_cases h0 : n = 0
    · subst h0; simp [digs_zero]
    · rw [digs_pos h0, List.length_append]
      have := ih (n := n / 256) (by rw [Nat.pow_succ] at h; omega)
      simp; omega
theorem lt_of_digs_length (n : Nat) : n < 256 ^ (digs n).length := by
  have := valL_lt (digs n) (digs_lt n)
  rwa [val_digs] at this

/-! ### texts -/
def L (s : List UInt8) : List Nat := s.map UInt8.toNat
theorem L_length (s : List UInt8) : (L s).length = s.length := by simp [L]
theorem L_lt (s : List UInt8) : ∀ b ∈ L s, b < 256 := by
  intro b hb
  obtain ⟨u, _, rfl⟩ := List.mem_map.1 hb
  exact u.toNat_lt
theorem L_inj {s t : List UInt8} (h : L s = L t) : s = t := (List.map_inj_right (fun a b h => UInt8.toNat_inj.1 h)).1 h
theorem L_append (s t : List UInt8) : L (s ++ t) = L s ++ L t := by simp [L]
/-- The text of a natural, and the natural of a text. -/
def nat (n : Nat) : List UInt8 := (digs n).map UInt8.ofNat
def val (s : List UInt8) : Nat := valL (L s)
theorem L_nat (n : Nat) : L (nat n) = digs n := by
  unfold L nat
  rw [List.map_map]
  conv => rhs; rw [← List.map_id (digs n)]
  apply List.map_congr_left
  intro b hb
  have := digs_lt n b hb
  simp only [Function.comp, id]
  exact UInt8.toNat_ofNat_of_lt' this
theorem val_nat (n : Nat) : val (nat n) = n := by unfold val; rw [L_nat, val_digs]
theorem nat_inj {m n : Nat} : nat m = nat n ↔ m = n := ⟨fun h => by rw [← val_nat m, h, val_nat], fun h => by rw [h]⟩
theorem L_trim (s : List UInt8) : L (nat (val s)) = trimL (L s) := by rw [L_nat]; exact digs_val _ (L_lt s)
theorem nat_length (n : Nat) : (nat n).length = (digs n).length := by rw [← L_length, L_nat]
theorem nat_length_le {n k : Nat} (h : n < 256 ^ k) : (nat n).length ≤ k := by rw [nat_length]; exact digs_length_le h
theorem val_lt (s : List UInt8) : val s < 256 ^ s.length := by
  have := valL_lt (L s) (L_lt s)
  rwa [L_length] at this
theorem nat_val_length (s : List UInt8) : (nat (val s)).length ≤ s.length := nat_length_le (val_lt s)
theorem nat_zero : nat 0 = [] := by unfold nat; rw [digs_zero]; rfl
theorem nat_length_zero {n : Nat} : (nat n).length = 0 ↔ n = 0 := by
  constructor
  · intro h
    have := val_lt (nat n)
    rw [val_nat, h] at this
    simpa using this
  · rintro rfl; rw [nat_zero]; rfl
theorem nat_eq_nil {n : Nat} : nat n = [] ↔ n = 0 := by rw [← nat_zero, nat_inj]
theorem val_nil : val [] = 0 := rfl
theorem val_append (s t : List UInt8) : val (s ++ t) = val s * 256 ^ t.length + val t := by unfold val; rw [L_append, valL_append, L_length]
theorem val_cons (b : UInt8) (s : List UInt8) : val (b :: s) = b.toNat * 256 ^ s.length + val s := by
  show valL (b.toNat :: L s) = _
  rw [valL_cons, L_length]; rfl
theorem val_snoc (s : List UInt8) (b : UInt8) : val (s ++ [b]) = val s * 256 + b.toNat := by
  rw [val_append]; simp [val_cons, val_nil]
theorem trim_fix {s : List UInt8} (h : ∀ b l, s = b :: l → b ≠ 0) : nat (val s) = s := by
  apply L_inj
  rw [L_trim]
  cases s with
  | nil => rfl
  | cons b l =>
    have : b.toNat ≠ 0 := fun e => h b l rfl (UInt8.toNat_inj.1 e)
    simp [L, trimL, this]
theorem trimB (s : List UInt8) : Lib.trimLeftB s 0 = nat (val s) := by
  apply L_inj
  rw [L_trim]
  unfold Lib.trimLeftB
  induction s with
  | nil => rfl
  | cons b s ih =>
    rw [List.dropWhile_cons]
    by_cases h : b = 0
    · subst h
      simp only [L, List.map_cons, trimL] at ih ⊢
      simpa using ih
    · have hb : b.toNat ≠ 0 := fun e => h (UInt8.toNat_inj.1 e)
      simp [L, trimL, h, hb]
theorem nat_head (n : Nat) (b : UInt8) (l : List UInt8) (h : nat n = b :: l) : b ≠ 0 := by
  intro e
  have h1 := L_nat n
  rw [h, e] at h1
  exact digs_head n 0 (L l) h1.symm rfl
theorem nat_val_nat (n : Nat) : nat (val (nat n)) = nat n := by rw [val_nat]

def W (B : Nat) : List Int → Nat
  | [] => 0
  | a :: l => a.toNat + B * W B l
def Ok (B : Nat) (l : List Int) : Prop := ∀ x ∈ l, 0 ≤ x ∧ x < (B : Int)
theorem Ok.nil (B : Nat) : Ok B [] := fun x h => by cases h
theorem Ok.cons {B : Nat} {a : Int} {l : List Int} (h0 : 0 ≤ a) (h1 : a < (B : Int)) (h : Ok B l) : Ok B (a :: l) := by
  intro x hx
  rcases List.mem_cons.1 hx with rfl | hx
  · exact ⟨h0, h1⟩
  · exact h x hx
theorem Ok.append {B : Nat} {l m : List Int} (h : Ok B l) (k : Ok B m) : Ok B (l ++ m) := by
  intro x hx
  rcases List.mem_append.1 hx with hx | hx
  · exact h x hx
  · exact k x hx
theorem Ok.snoc {B : Nat} {l : List Int} {a : Int} (h : Ok B l) (h0 : 0 ≤ a) (h1 : a < (B : Int)) : Ok B (l ++ [a]) := h.append ((Ok.nil B).cons h0 h1)
theorem Ok.take {B : Nat} {l : List Int} (h : Ok B l) (i : Nat) : Ok B (l.take i) := fun x hx => h x (List.mem_of_mem_take hx)
theorem Ok.set {B : Nat} {l : List Int} {a : Int} (h : Ok B l) (p : Nat) (h0 : 0 ≤ a) (h1 : a < (B : Int)) : Ok B (l.set p a) := by
  intro x hx
  rcases List.mem_or_eq_of_mem_set hx with hx | rfl
  · exact h x hx
  · exact ⟨h0, h1⟩
theorem Ok.zeros {B : Nat} (hB : 0 < B) (n : Nat) : Ok B (List.replicate n 0) := by
  intro x hx
  have := (List.mem_replicate.1 hx).2
  subst this
  omega
theorem Ok.getD {B : Nat} {l : List Int} (hB : 0 < B) (h : Ok B l) (i : Nat) : 0 ≤ l.getD i 0 ∧ l.getD i 0 < (B : Int) := by
  by_cases hi : i < l.length
  · rw [List.getD_eq_getElem?_getD, List.getElem?_eq_getElem hi]
    exact h _ (List.getElem_mem hi)
  · rw [List.getD_eq_getElem?_getD, List.getElem?_eq_none (by omega)]
    simp; omega
theorem W_append (B : Nat) (a b : List Int) : W B (a ++ b) = W B a + B ^ a.length * W B b := by
  induction a with
  | nil => simp [W]
  | cons x a ih =>
    simp only [List.cons_append, W, ih, List.length_cons, Nat.pow_succ]
    grind
theorem W_snoc (B : Nat) (a : List Int) (x : Int) : W B (a ++ [x]) = W B a + B ^ a.length * x.toNat := by rw [W_append]; simp [W]
theorem W_lt {B : Nat} {l : List Int} (h : Ok B l) : W B l < B ^ l.length := by
  induction l with
  | nil => simp [W]
  | cons a l ih =>
    have h1 := ih (fun x hx => h x (List.mem_cons_of_mem _ hx))
    have h2 := h a (List.mem_cons_self ..)
    rw [W, List.length_cons, Nat.pow_succ]
    have h3 : a.toNat < B := by omega
    have h4 : B * (W B l + 1) ≤ B * B ^ l.length := Nat.mul_le_mul_left _ (by omega)
    rw [Nat.mul_add, Nat.mul_comm B (B ^ l.length)] at h4
    omega
theorem W_zeros (B n : Nat) : W B (List.replicate n 0) = 0 := by
  induction n with
  | zero => rfl
  | succ n ih => rw [List.replicate_succ, W, ih]; simp
theorem take_succ' (l : List Int) (i : Nat) (h : i < l.length) : l.take (i + 1) = l.take i ++ [l.getD i 0] := by
  rw [List.take_add_one, List.getD_eq_getElem?_getD, List.getElem?_eq_getElem h]
  rfl
theorem W_take (B : Nat) (l : List Int) (i : Nat) : W B (l.take (i + 1)) = W B (l.take i) + B ^ i * (l.getD i 0).toNat := by
  by_cases h : i < l.length
  · rw [take_succ' l i h, W_snoc, List.length_take, Nat.min_eq_left (by omega)]
  · rw [List.take_of_length_le (by omega), List.take_of_length_le (by omega), List.getD_eq_getElem?_getD, List.getElem?_eq_none (by omega)]
    simp
theorem W_all (B : Nat) (l : List Int) (i : Nat) (h : l.length ≤ i) : W B (l.take i) = W B l := by rw [List.take_of_length_le h]
theorem W_set (B : Nat) (l : List Int) (p : Nat) (v : Int) (h : p < l.length) : W B (l.set p v) + B ^ p * (l.getD p 0).toNat = W B l + B ^ p * v.toNat := by
  induction l generalizing p with
  | nil => simp at h
  | cons a l ih =>
    cases p with
    | zero => simp [W]; omega
    | succ p =>
      have := ih p (by simpa using h)
      simp only [List.set_cons_succ, W, List.getD_cons_succ, Nat.pow_succ]
      grind
theorem W_split (B : Nat) (l : List Int) (i : Nat) (h : i ≤ l.length) : W B l = W B (l.take i) + B ^ i * W B (l.drop i) := by
  conv => lhs; rw [← List.take_append_drop i l]
  rw [W_append, List.length_take, Nat.min_eq_left h]
theorem getD_set_ne (l : List Int) (p j : Nat) (v : Int) (h : p ≠ j) : (l.set p v).getD j 0 = l.getD j 0 := by
  rw [List.getD_eq_getElem?_getD, List.getElem?_set_ne h, List.getD_eq_getElem?_getD]
theorem getD_set_self (l : List Int) (p : Nat) (v : Int) (h : p < l.length) : (l.set p v).getD p 0 = v := by
  rw [List.getD_eq_getElem?_getD, List.getElem?_set_self h]; rfl

/-! ### limbs -/
def limbs (n : Nat) : List Int := if h : n = 0 then [] else ((n % 4294967296 : Nat) : Int) :: limbs (n / 4294967296)
termination_by n
decreasing_by omega
theorem limbs_zero : limbs 0 = [] := by rw [limbs]; simp
theorem limbs_pos {n : Nat} (h : n ≠ 0) : limbs n = ((n % 4294967296 : Nat) : Int) :: limbs (n / 4294967296) := by rw [limbs]; simp [h]
def cutW : List Int → List Int
  | [] => []
  | a :: l => if cutW l = [] then (if a = 0 then [] else [a]) else a :: cutW l
theorem cutW_snoc0 (l : List Int) : cutW (l ++ [0]) = cutW l := by
  induction l with
  | nil => simp [cutW]
  | cons a l ih => simp only [List.cons_append, cutW, ih]
theorem cutW_snoc (l : List Int) (a : Int) (h : a ≠ 0) : cutW (l ++ [a]) = l ++ [a] := by
  induction l with
  | nil => simp [cutW, h]
  | cons b l ih => simp only [List.cons_append, cutW, ih]; simp
theorem cutW_limbs {l : List Int} (h : Ok 4294967296 l) : cutW l = limbs (W 4294967296 l) := by
  induction l with
  | nil => simp [cutW, W, limbs_zero]
  | cons a l ih =>
    have ha := h a (List.mem_cons_self ..)
    have ih := ih (fun x hx => h x (List.mem_cons_of_mem _ hx))
    rw [cutW, W, ih]
    by_cases hz : W 4294967296 l = 0
    · rw [hz, limbs_zero]
      simp only [if_true]
      by_cases h0 : a = 0
      · subst h0; simp [limbs_zero]
      · rw [if_neg h0, limbs_pos (by omega), show (a.toNat + 4294967296 * 0) / 4294967296 = 0 by omega, limbs_zero]
        congr 1
        omega
    · have hn : limbs (W 4294967296 l) ≠ [] := by rw [limbs_pos hz]; simp
      rw [if_neg hn]
      rw [limbs_pos (n := a.toNat + 4294967296 * W 4294967296 l) (by omega), show (a.toNat + 4294967296 * W 4294967296 l) / 4294967296 = W 4294967296 l by omega]
      congr 1
      omega
theorem limbs_ok (n : Nat) : Ok 4294967296 (limbs n) := by
  induction n using Nat.strongRecOn with
  | _ n ih =>
    by_cases h : n = 0
    · subst h; rw [limbs_zero]; exact Ok.nil _
    · rw [limbs_pos h]
      exact (ih (n / 4294967296) (by omega)).cons (by omega) (by omega)
theorem W_limbs (n : Nat) : W 4294967296 (limbs n) = n := by
  induction n using Nat.strongRecOn with
  | _ n ih =>
    by_cases h : n = 0
    · subst h; rw [limbs_zero]; rfl
    · rw [limbs_pos h, W, ih (n / 4294967296) (by omega)]
      omega
theorem limbs_getD (n i : Nat) : (limbs n).getD i 0 = ((n / 4294967296 ^ i % 4294967296 : Nat) : Int) := by
  induction i generalizing n with
  | zero =>
    by_cases h : n = 0
    · subst h; simp [limbs_zero]
    · rw [limbs_pos h]; simp
  | succ i ih =>
    by_cases h : n = 0
    · subst h; simp [limbs_zero]
    · rw [limbs_pos h, List.getD_cons_succ, ih, Nat.pow_succ, Nat.mul_comm, Nat.div_div_eq_div_mul]
theorem lt_limbs (n : Nat) : n < 4294967296 ^ (limbs n).length := by
  have := W_lt (limbs_ok n)
  rwa [W_limbs] at this
theorem limbs_le {n k : Nat} (h : n < 4294967296 ^ k) : (limbs n).length ≤ k := by
  induction k generalizing n with
  | zero => have : n = 0 := by simpa using h
            subst this; simp [limbs_zero]
  | succ k ih =>
    by_cases h0 : n = 0
    · subst h0; simp [limbs_zero]
    · rw [limbs_pos h0, List.length_cons]
      have := ih (n := n / 4294967296) (by rw [Nat.pow_succ] at h; omega)
      omega
theorem limbs_low {n : Nat} (h : n ≠ 0) : 4294967296 ^ ((limbs n).length - 1) ≤ n := by
  apply Classical.byContradiction
  intro hn
  have h1 := limbs_le (n := n) (k := (limbs n).length - 1) (by omega)
  have h2 : (limbs n).length ≠ 0 := by rw [limbs_pos h]; simp
  omega
theorem limbs_nil {n : Nat} : (limbs n).length = 0 ↔ n = 0 := by
  constructor
  · intro h
    have := lt_limbs n
    rw [h] at this
    simpa using this
  · rintro rfl; rw [limbs_zero]; rfl
theorem pow_32 (k : Nat) : 4294967296 ^ k = 256 ^ (4 * k) := by rw [show (4294967296 : Nat) = 256 ^ 4 by decide, ← Nat.pow_mul]
theorem limbs_size {n k : Nat} (h : n < 256 ^ k) : (limbs n).length ≤ (k + 3) / 4 := by
  apply limbs_le
  rw [pow_32]
  exact Nat.lt_of_lt_of_le h (Nat.pow_le_pow_right (by decide) (by omega))
theorem limbs_val (s : List UInt8) : (limbs (val s)).length ≤ (s.length + 3) / 4 := limbs_size (val_lt s)
/-! ### a text's bytes, the lowest first -/
def R (s : List UInt8) : List Int := ((L s).map fun b : Nat => (b : Int)).reverse
theorem R_length (s : List UInt8) : (R s).length = s.length := by simp [R, L_length]
theorem R_ok (s : List UInt8) : Ok 256 (R s) := by
  intro x hx
  unfold R at hx
  rw [List.mem_reverse, List.mem_map] at hx
  obtain ⟨b, hb, rfl⟩ := hx
  have := L_lt s b hb
  omega
theorem W_rev (l : List Nat) : W 256 ((l.map fun b : Nat => (b : Int)).reverse) = valL l := by
  refine snoc_ind (P := fun l => W 256 ((l.map fun b : Nat => (b : Int)).reverse) = valL l) rfl ?_ l
  intro l b ih
  rw [valL_snoc, List.map_append, List.reverse_append]
  simp only [List.map_cons, List.map_nil, List.reverse_cons, List.reverse_nil, List.nil_append, List.singleton_append]
  rw [W, ih]
  simp
  omega
theorem W_R (s : List UInt8) : W 256 (R s) = val s := W_rev _
theorem R_getD (s : List UInt8) (i : Nat) (h : i < s.length) : (R s).getD i 0 = ((s.getD (s.length - 1 - i) 0).toNat : Int) := by
  unfold R L
  rw [List.getD_eq_getElem?_getD, List.getElem?_reverse (by simp [h])]
  simp only [List.length_map, List.getElem?_map, List.getD_eq_getElem?_getD]
  rw [List.getElem?_eq_getElem (by omega)]
  rfl
theorem readSum0 (w n a b d : Nat) (h : a = 0) : w + 4294967296 ^ n * (a * 256 ^ d + b) = w + 4294967296 ^ n * b + 4294967296 ^ (n + 1) * a := by
  rw [h, Nat.zero_mul, Nat.zero_add, Nat.mul_zero, Nat.add_zero]
theorem readSum4 (w n a b d : Nat) (h : d = 4) : w + 4294967296 ^ n * (a * 256 ^ d + b) = w + 4294967296 ^ n * b + 4294967296 ^ (n + 1) * a := by
  have e : (256 : Nat) ^ d = 4294967296 := by rw [h]
  rw [e, Nat.pow_succ]
  generalize 4294967296 ^ n = P
  rw [Nat.mul_add, Nat.mul_comm a, Nat.mul_assoc]
  omega
def blen (n : Nat) : Nat := if h : n = 0 then 0 else blen (n / 2) + 1
termination_by n
decreasing_by omega
theorem blen_zero : blen 0 = 0 := by rw [blen]; simp
theorem blen_pos {n : Nat} (h : n ≠ 0) : blen n = blen (n / 2) + 1 := by rw [blen]; simp [h]
theorem bitLen_blen (n : Nat) : n < 2 ^ 64 → Lib.bitLen n = blen n := by
  induction n using Nat.strongRecOn with
  | _ n ih =>
    intro hn
    by_cases h : n = 0
    · subst h; rw [blen_zero]; exact Lib.bitLenAux_zero _
    · rw [Lib.bitLen_half n h hn, blen_pos h, ih (n / 2) (by omega) (by omega)]
      omega
theorem blen_shift (j n : Nat) (h : 2 ^ j ≤ n) : blen n = blen (n / 2 ^ j) + j := by
  induction j with
  | zero => simp
  | succ j ih =>
    rw [Nat.pow_succ] at h
    rw [ih (by omega), blen_pos (n := n / 2 ^ j) (by have := Nat.div_pos (a := n) (b := 2 ^ j) (by omega) (Nat.two_pow_pos j); omega), Nat.pow_succ, ← Nat.div_div_eq_div_mul]
    omega
theorem top_digit {B : Nat} (hB : 0 < B) {l : List Int} (h : Ok B l) (i : Nat) (hi : l.length = i + 1) : (l.getD i 0).toNat = W B l / B ^ i := by
  have h1 := W_take B l i
  rw [W_all B l (i + 1) (by omega)] at h1
  have h2 := W_lt (h.take i)
  rw [List.length_take, Nat.min_eq_left (by omega)] at h2
  rw [h1, Nat.add_mul_div_left _ _ (Nat.pow_pos hB), Nat.div_eq_of_lt h2]
  omega
theorem blen_le (n : Nat) (h : n < 2 ^ 32) : blen n ≤ 32 := by
  rw [← bitLen_blen n (by omega)]; exact Lib.bitLen_le n 32 (by decide) h
def sgn (a b : Nat) : Int := if a < b then -1 else if a = b then 0 else 1
theorem limbs_len_lt {a b : Nat} (h : (limbs a).length < (limbs b).length) : a < b := by
  have h1 := lt_limbs a
  have hb : b ≠ 0 := by rintro rfl; rw [limbs_zero] at h; simp at h
  have h2 := limbs_low hb
  have h3 : 4294967296 ^ (limbs a).length ≤ 4294967296 ^ ((limbs b).length - 1) := Nat.pow_le_pow_right (by decide) (by omega)
  omega
theorem bytesLess_val (x y : List UInt8) (h : x.length = y.length) : Op.bytesLess x y = decide (valL (x.map UInt8.toNat) < valL (y.map UInt8.toNat)) := by
  induction x generalizing y with
  | nil =>
    cases y with
    | nil => rfl
    | cons b y => simp at h
  | cons a x ih =>
    cases y with
    | nil => simp at h
    | cons b y =>
      have h' : x.length = y.length := by simpa using h
      have b1 := valL_lt (x.map UInt8.toNat) (by intro c hc; obtain ⟨u, _, rfl⟩ := List.mem_map.1 hc; exact u.toNat_lt)
      have b2 := valL_lt (y.map UInt8.toNat) (by intro c hc; obtain ⟨u, _, rfl⟩ := List.mem_map.1 hc; exact u.toNat_lt)
      rw [List.length_map] at b1 b2
      rw [Op.bytesLess, ih y h', List.map_cons, List.map_cons, valL_cons, valL_cons, List.length_map, List.length_map, h']
      rw [h'] at b1
      generalize valL (x.map UInt8.toNat) = v at b1 ⊢
      generalize valL (y.map UInt8.toNat) = w at b2 ⊢
      generalize 256 ^ y.length = P at b1 b2 ⊢
      by_cases e : a = b
      · subst e
        simp [UInt8.lt_irrefl]
      · by_cases l : a < b
        · have l' := UInt8.lt_iff_toNat_lt.1 l
          have h3 : (a.toNat + 1) * P ≤ b.toNat * P := Nat.mul_le_mul_right _ (by omega)
          rw [Nat.add_mul] at h3
          simp only [l, decide_true, Bool.true_or]
          exact (decide_eq_true (by omega)).symm
        · have l' : ¬ a.toNat < b.toNat := fun h => l (UInt8.lt_iff_toNat_lt.2 h)
          have e' : a.toNat ≠ b.toNat := fun h => e (UInt8.toNat_inj.1 h)
          have h3 : (b.toNat + 1) * P ≤ a.toNat * P := Nat.mul_le_mul_right _ (by omega)
          rw [Nat.add_mul] at h3
          have e2 : (a == b) = false := beq_eq_false_iff_ne.2 e
          simp only [l, e2, decide_false, Bool.false_or, Bool.false_and]
          exact (decide_eq_false (by omega)).symm
theorem add_step (P B w c a a' x y q r : Nat) (h : w + P * c = x + y) (hv : a + a' + c = B * q + r) : (w + P * r) + P * B * q = (x + P * a) + (y + P * a') := by
  have : P * (a + a' + c) = P * (B * q + r) := by rw [hv]
  grind
theorem sub_step (P B w c a a' x y q r : Nat) (h : w + y = x + P * c) (hv : r + a' + c = a + B * q) : (w + P * r) + (y + P * a') = (x + P * a) + P * B * q := by
  have : P * (r + a' + c) = P * (a + B * q) := by rw [hv]
  grind
theorem mul_step (B P w w' x m c a b y q r Pi Pj : Nat) (h : w + P * c = x + a * Pi * m) (hp : P = Pi * Pj) (hset : w' + P * y = w + P * r) (hv : a * b + y + c = B * q + r) :
    w' + P * B * q = x + a * Pi * (m + Pj * b) := by
  subst hp
  have : Pi * Pj * (a * b + y + c) = Pi * Pj * (B * q + r) := by rw [hv]
  have h2 : w' + Pi * Pj * B * q + Pi * Pj * y + Pi * Pj * c = x + a * Pi * (m + Pj * b) + Pi * Pj * y + Pi * Pj * c := by grind
  omega
theorem mul_row (B : Nat) (Pi Pl w w' x m c a : Nat) (h : w + Pi * Pl * c = x + a * Pi * m) (hset : w' + Pi * Pl * 0 = w + Pi * Pl * c) (hx : ∃ u, x = u * m ) : w' = x + Pi * a * m := by
  have : a * Pi * m = Pi * a * m := by rw [Nat.mul_comm a]
  omega
theorem getD_zero_of_lt {B : Nat} (hB : 0 < B) {l : List Int} (h : Ok B l) (p : Nat) (hp : p < l.length) (hw : W B l < B ^ p) : l.getD p 0 = 0 := by
  have h1 := W_take B l p
  have h2 := W_split B l (p + 1) (by omega)
  have h3 := h.getD hB p
  have h4 : B ^ p * 1 ≤ B ^ p * (l.getD p 0).toNat ∨ (l.getD p 0).toNat = 0 := by
    by_cases h0 : (l.getD p 0).toNat = 0
    · exact .inr h0
    · exact .inl (Nat.mul_le_mul_left _ (by omega))
  rcases h4 with h4 | h4 <;> omega
theorem le_mul_pred {a b B : Nat} (ha : a < B) (hb : b < B) : a * b + 2 * B ≤ B * B + 1 := by
  obtain ⟨x, rfl⟩ : ∃ x, B = a + 1 + x := ⟨B - (a + 1), by omega⟩
  obtain ⟨y, hy⟩ : ∃ y, a + 1 + x = b + 1 + y := ⟨a + 1 + x - (b + 1), by omega⟩
  have h1 : a * b ≤ (a + x) * (b + y) := Nat.mul_le_mul (by omega) (by omega)
  have h2 : b + y = a + x := by omega
  rw [h2] at h1
  have h3 : (a + 1 + x) * (a + 1 + x) = (a + x) * (a + x) + 2 * (a + x) + 1 := by grind
  omega
theorem W_set' (B : Nat) (l : List Int) (p : Nat) (v : Nat) (h : p < l.length) : W B (l.set p (v : Int)) + B ^ p * (l.getD p 0).toNat = W B l + B ^ p * v := W_set B l p v h
theorem W_revBytes (l : List Int) (h : Ok 256 l) : valL (l.reverse.map Int.toNat) = W 256 l := by
  rw [← W_rev, List.map_map]
  congr 1
  have : l.reverse.map ((fun b : Nat => (b : Int)) ∘ Int.toNat) = l.reverse := by
    conv => rhs; rw [← List.map_id l.reverse]
    apply List.map_congr_left
    intro x hx
    have := h x (by simpa using hx)
    simp only [Function.comp, id]
    omega
  rw [this, List.reverse_reverse]
theorem nat_low {n : Nat} (h : n ≠ 0) : 256 ^ ((nat n).length - 1) ≤ n := by
  apply Classical.byContradiction
  intro hn
  have h1 := nat_length_le (n := n) (k := (nat n).length - 1) (by omega)
  have h2 : (nat n).length ≠ 0 := fun h2 => h (nat_length_zero.1 h2)
  omega
theorem nat_len_lt {a b : Nat} (h : (nat a).length < (nat b).length) : a < b := by
  have h1 := val_lt (nat a)
  rw [val_nat] at h1
  have hb : b ≠ 0 := by rintro rfl; have := nat_length_zero.2 (rfl : 0 = 0); omega
  have h2 := nat_low hb
  have h3 : 256 ^ (nat a).length ≤ 256 ^ ((nat b).length - 1) := Nat.pow_le_pow_right (by decide) (by omega)
  omega
theorem W_Rall (s : List UInt8) (i : Nat) (h : s.length ≤ i) : W 256 ((R s).take i) = val s := by rw [W_all _ _ _ (by rw [R_length]; omega), W_R]
theorem nat_of {s : List UInt8} {n : Nat} (hv : val s = n) (hd : ∀ b l, s = b :: l → b ≠ 0) : nat n = s := by rw [← hv]; exact trim_fix hd
end Go.Proofs.YtcdcijhfjiahkaaDoorR.P
