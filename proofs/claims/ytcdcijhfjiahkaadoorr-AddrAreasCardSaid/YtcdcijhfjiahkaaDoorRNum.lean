/- Numbers as lists of digits, the lowest first, to any base, and the limbs of a number: plain Lean, no program. -/
import Derived.Test.YtcdcijhfjiahkaaDoorRMath
namespace Go.Proofs.YtcdcijhfjiahkaaDoorR.M
open Go.RowKit Go.Proofs.YtcdcijhfjiahkaaDoorRW.PrintWords
set_option linter.unusedVariables false
set_option linter.unusedSimpArgs false

def W (B : Nat) : List Int → Nat
  | [] => 0
  | a :: l => a.toNat + B * W B l
def Ok (B : Nat) (l : List Int) : Prop := ∀ x ∈ l, 0 ≤ x ∧ x < (B : Int)
theorem Ok.nil (B : Nat) : Ok B [] := fun x h => by cases h
theorem Ok.cons {B : Nat} {a : Int} {l : List Int} (h0 : 0 ≤ a) (h1 : a < (B : Int)) (h : Ok B l) : Ok B (a :: l) := by
  intro x hx
  rcases List.mem_cons.1 hx with rfl | hx
  · exact ⟨h0, h1⟩
  · exact h x hx
theorem Ok.append {B : Nat} {l m : List Int} (h : Ok B l) (k : Ok B m) : Ok B (l ++ m) := by
  intro x hx
  rcases List.mem_append.1 hx with hx | hx
  · exact h x hx
  · exact k x hx
theorem Ok.snoc {B : Nat} {l : List Int} {a : Int} (h : Ok B l) (h0 : 0 ≤ a) (h1 : a < (B : Int)) : Ok B (l ++ [a]) := h.append ((Ok.nil B).cons h0 h1)
theorem Ok.take {B : Nat} {l : List Int} (h : Ok B l) (i : Nat) : Ok B (l.take i) := fun x hx => h x (List.mem_of_mem_take hx)
theorem Ok.set {B : Nat} {l : List Int} {a : Int} (h : Ok B l) (p : Nat) (h0 : 0 ≤ a) (h1 : a < (B : Int)) : Ok B (l.set p a) := by
  intro x hx
  rcases List.mem_or_eq_of_mem_set hx with hx | rfl
  · exact h x hx
  · exact ⟨h0, h1⟩
theorem Ok.zeros {B : Nat} (hB : 0 < B) (n : Nat) : Ok B (List.replicate n 0) := by
  intro x hx
  have := (List.mem_replicate.1 hx).2
  subst this
  omega
theorem Ok.getD {B : Nat} {l : List Int} (hB : 0 < B) (h : Ok B l) (i : Nat) : 0 ≤ l.getD i 0 ∧ l.getD i 0 < (B : Int) := by
  by_cases hi : i < l.length
  · rw [List.getD_eq_getElem?_getD, List.getElem?_eq_getElem hi]
    exact h _ (List.getElem_mem hi)
  · rw [List.getD_eq_getElem?_getD, List.getElem?_eq_none (by omega)]
    simp; omega
theorem W_append (B : Nat) (a b : List Int) : W B (a ++ b) = W B a + B ^ a.length * W B b := by
  induction a with
  | nil => simp [W]
  | cons x a ih =>
    simp only [List.cons_append, W, ih, List.length_cons, Nat.pow_succ]
    grind
theorem W_snoc (B : Nat) (a : List Int) (x : Int) : W B (a ++ [x]) = W B a + B ^ a.length * x.toNat := by rw [W_append]; simp [W]
theorem W_lt {B : Nat} {l : List Int} (h : Ok B l) : W B l < B ^ l.length := by
  induction l with
  | nil => simp [W]
  | cons a l ih =>
    have h1 := ih (fun x hx => h x (List.mem_cons_of_mem _ hx))
    have h2 := h a (List.mem_cons_self ..)
    rw [W, List.length_cons, Nat.pow_succ]
    have h3 : a.toNat < B := by omega
    have h4 : B * (W B l + 1) ≤ B * B ^ l.length := Nat.mul_le_mul_left _ (by omega)
    rw [Nat.mul_add, Nat.mul_comm B (B ^ l.length)] at h4
    omega
theorem W_zeros (B n : Nat) : W B (List.replicate n 0) = 0 := by
  induction n with
  | zero => rfl
  | succ n ih => rw [List.replicate_succ, W, ih]; simp
theorem take_succ' (l : List Int) (i : Nat) (h : i < l.length) : l.take (i + 1) = l.take i ++ [l.getD i 0] := by
  rw [List.take_add_one, List.getD_eq_getElem?_getD, List.getElem?_eq_getElem h]
  rfl
theorem W_take (B : Nat) (l : List Int) (i : Nat) : W B (l.take (i + 1)) = W B (l.take i) + B ^ i * (l.getD i 0).toNat := by
  by_cases h : i < l.length
  · rw [take_succ' l i h, W_snoc, List.length_take, Nat.min_eq_left (by omega)]
  · rw [List.take_of_length_le (by omega), List.take_of_length_le (by omega), List.getD_eq_getElem?_getD, List.getElem?_eq_none (by omega)]
    simp
theorem W_all (B : Nat) (l : List Int) (i : Nat) (h : l.length ≤ i) : W B (l.take i) = W B l := by rw [List.take_of_length_le h]
theorem W_set (B : Nat) (l : List Int) (p : Nat) (v : Int) (h : p < l.length) : W B (l.set p v) + B ^ p * (l.getD p 0).toNat = W B l + B ^ p * v.toNat := by
  induction l generalizing p with
  | nil => simp at h
  | cons a l ih =>
    cases p with
    | zero => simp [W]; omega
    | succ p =>
      have := ih p (by simpa using h)
      simp only [List.set_cons_succ, W, List.getD_cons_succ, Nat.pow_succ]
      grind
theorem W_split (B : Nat) (l : List Int) (i : Nat) (h : i ≤ l.length) : W B l = W B (l.take i) + B ^ i * W B (l.drop i) := by
  conv => lhs; rw [← List.take_append_drop i l]
  rw [W_append, List.length_take, Nat.min_eq_left h]
theorem getD_set_ne (l : List Int) (p j : Nat) (v : Int) (h : p ≠ j) : (l.set p v).getD j 0 = l.getD j 0 := by
  rw [List.getD_eq_getElem?_getD, List.getElem?_set_ne h, List.getD_eq_getElem?_getD]
theorem getD_set_self (l : List Int) (p : Nat) (v : Int) (h : p < l.length) : (l.set p v).getD p 0 = v := by
  rw [List.getD_eq_getElem?_getD, List.getElem?_set_self h]; rfl

/-! ### limbs -/
def limbs (n : Nat) : List Int := if h : n = 0 then [] else ((n % 4294967296 : Nat) : Int) :: limbs (n / 4294967296)
termination_by n
decreasing_by omega
theorem limbs_zero : limbs 0 = [] := by rw [limbs]; simp
theorem limbs_pos {n : Nat} (h : n ≠ 0) : limbs n = ((n % 4294967296 : Nat) : Int) :: limbs (n / 4294967296) := by rw [limbs]; simp [h]
def cutW : List Int → List Int
  | [] => []
  | a :: l => if cutW l = [] then (if a = 0 then [] else [a]) else a :: cutW l
theorem cutW_snoc0 (l : List Int) : cutW (l ++ [0]) = cutW l := by
  induction l with
  | nil => simp [cutW]
  | cons a l ih => simp only [List.cons_append, cutW, ih]
theorem cutW_snoc (l : List Int) (a : Int) (h : a ≠ 0) : cutW (l ++ [a]) = l ++ [a] := by
  induction l with
  | nil => simp [cutW, h]
  | cons b l ih => simp only [List.cons_append, cutW, ih]; simp
theorem cutW_limbs {l : List Int} (h : Ok 4294967296 l) : cutW l = limbs (W 4294967296 l) := by
  induction l with
  | nil => simp [cutW, W, limbs_zero]
  | cons a l ih =>
    have ha := h a (List.mem_cons_self ..)
    have ih := ih (fun x hx => h x (List.mem_cons_of_mem _ hx))
    rw [cutW, W, ih]
    by_cases hz : W 4294967296 l = 0
    · rw [hz, limbs_zero]
      simp only [if_true]
      by_cases h0 : a = 0
      · subst h0; simp [limbs_zero]
      · rw [if_neg h0, limbs_pos (by omega), show (a.toNat + 4294967296 * 0) / 4294967296 = 0 by omega, limbs_zero]
        congr 1
        omega
    · have hn : limbs (W 4294967296 l) ≠ [] := by rw [limbs_pos hz]; simp
      rw [if_neg hn]
      rw [limbs_pos (n := a.toNat + 4294967296 * W 4294967296 l) (by omega), show (a.toNat + 4294967296 * W 4294967296 l) / 4294967296 = W 4294967296 l by omega]
      congr 1
      omega
theorem limbs_ok (n : Nat) : Ok 4294967296 (limbs n) := by
  induction n using Nat.strongRecOn with
  | _ n ih =>
    by_cases h : n = 0
    · subst h; rw [limbs_zero]; exact Ok.nil _
    · rw [limbs_pos h]
      exact (ih (n / 4294967296) (by omega)).cons (by omega) (by omega)
theorem W_limbs (n : Nat) : W 4294967296 (limbs n) = n := by
  induction n using Nat.strongRecOn with
  | _ n ih =>
    by_cases h : n = 0
    · subst h; rw [limbs_zero]; rfl
    · rw [limbs_pos h, W, ih (n / 4294967296) (by omega)]
      omega
theorem limbs_getD (n i : Nat) : (limbs n).getD i 0 = ((n / 4294967296 ^ i % 4294967296 : Nat) : Int) := by
  induction i generalizing n with
  | zero =>
    by_cases h : n = 0
    · subst h; simp [limbs_zero]
    · rw [limbs_pos h]; simp
  | succ i ih =>
    by_cases h : n = 0
    · subst h; simp [limbs_zero]
    · rw [limbs_pos h, List.getD_cons_succ, ih, Nat.pow_succ, Nat.mul_comm, Nat.div_div_eq_div_mul]
theorem lt_limbs (n : Nat) : n < 4294967296 ^ (limbs n).length := by
  have := W_lt (limbs_ok n)
  rwa [W_limbs] at this
theorem limbs_le {n k : Nat} (h : n < 4294967296 ^ k) : (limbs n).length ≤ k := by
  induction k generalizing n with
  | zero => have : n = 0 := by simpa using h
            subst this; simp [limbs_zero]
  | succ k ih =>
    by_cases h0 : n = 0
    · subst h0; simp [limbs_zero]
    · rw [limbs_pos h0, List.length_cons]
      have := ih (n := n / 4294967296) (by rw [Nat.pow_succ] at h; omega)
      omega
theorem limbs_low {n : Nat} (h : n ≠ 0) : 4294967296 ^ ((limbs n).length - 1) ≤ n := by
  apply Classical.byContradiction
  intro hn
  have h1 := limbs_le (n := n) (k := (limbs n).length - 1) (by omega)
  have h2 : (limbs n).length ≠ 0 := by rw [limbs_pos h]; simp
  omega
theorem limbs_nil {n : Nat} : (limbs n).length = 0 ↔ n = 0 := by
  constructor
  · intro h
    have := lt_limbs n
    rw [h] at this
    simpa using this
  · rintro rfl; rw [limbs_zero]; rfl
theorem pow_32 (k : Nat) : 4294967296 ^ k = 256 ^ (4 * k) := by rw [show (4294967296 : Nat) = 256 ^ 4 by decide, ← Nat.pow_mul]
theorem limbs_size {n k : Nat} (h : n < 256 ^ k) : (limbs n).length ≤ (k + 3) / 4 := by
  apply limbs_le
  rw [pow_32]
  exact Nat.lt_of_lt_of_le h (Nat.pow_le_pow_right (by decide) (by omega))
theorem limbs_val (s : ByteArray) : (limbs (val s)).length ≤ (s.size + 3) / 4 := limbs_size (val_lt s)

/-! ### a text's bytes, the lowest first -/
def R (s : ByteArray) : List Int := ((L s).map fun b : Nat => (b : Int)).reverse
theorem R_length (s : ByteArray) : (R s).length = s.size := by simp [R, L_length]
theorem R_ok (s : ByteArray) : Ok 256 (R s) := by
  intro x hx
  unfold R at hx
  rw [List.mem_reverse, List.mem_map] at hx
  obtain ⟨b, hb, rfl⟩ := hx
  have := L_lt s b hb
  omega
theorem W_rev (l : List Nat) : W 256 ((l.map fun b : Nat => (b : Int)).reverse) = valL l := by
  refine snoc_ind (P := fun l => W 256 ((l.map fun b : Nat => (b : Int)).reverse) = valL l) rfl ?_ l
  intro l b ih
  rw [valL_snoc, List.map_append, List.reverse_append]
  simp only [List.map_cons, List.map_nil, List.reverse_cons, List.reverse_nil, List.nil_append, List.singleton_append]
  rw [W, ih]
  simp
  omega
theorem W_R (s : ByteArray) : W 256 (R s) = val s := W_rev _
theorem R_getD (s : ByteArray) (i : Nat) (h : i < s.size) : (R s).getD i 0 = bt s ((s.size - 1 - i : Nat) : Int) := by
  rw [bt_L]
  unfold R
  rw [List.getD_eq_getElem?_getD, List.getElem?_reverse (by simp [L_length, h]), List.getElem?_map, List.length_map, L_length, List.getD_eq_getElem?_getD]
  have : s.size - 1 - i < (L s).length := by rw [L_length]; omega
  rw [List.getElem?_eq_getElem this]
  rfl
end Go.Proofs.YtcdcijhfjiahkaaDoorR.M
