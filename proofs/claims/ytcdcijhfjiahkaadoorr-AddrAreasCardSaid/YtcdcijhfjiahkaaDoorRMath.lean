/- Naturals as texts of bytes and as limbs, in plain Lean: no program. -/
import Derived.Test.YtcdcijhfjiahkaaDoorRWWords
import Derived.Laws.BitsLemmas
import Derived.Lib.BitFns
import Derived.Lib.ItoaNum
namespace Go.Proofs.YtcdcijhfjiahkaaDoorR.M
open Go.RowKit Go.Proofs.YtcdcijhfjiahkaaDoorRW.PrintWords
set_option linter.unusedVariables false
set_option linter.unusedSimpArgs false

/-! ### texts as lists of bytes -/
def L (s : ByteArray) : List Nat := s.data.toList.map UInt8.toNat
theorem L_length (s : ByteArray) : (L s).length = s.size := by rw [L, List.length_map, data_length]
theorem L_lt (s : ByteArray) : ∀ b ∈ L s, b < 256 := by
  intro b hb
  obtain ⟨u, _, rfl⟩ := List.mem_map.1 hb
  exact u.toNat_lt
theorem L_inj {s t : ByteArray} (h : L s = L t) : s = t := by
  have h1 : s.data.toList = t.data.toList := (List.map_inj_right (fun a b h => UInt8.toNat_inj.1 h)).1 h
  cases s; cases t
  simp only [ByteArray.mk.injEq]
  exact Array.toList_inj.1 h1
theorem L_append (s t : ByteArray) : L (s ++ t) = L s ++ L t := by simp [L, ByteArray.data_append]
theorem L_extract (s : ByteArray) (a b : Nat) : L (s.extract a b) = ((L s).take b).drop a := by
  simp [L, ByteArray.data_extract, Array.toList_extract, List.extract, List.map_drop, List.map_take, List.drop_take]
theorem bt_L (s : ByteArray) (i : Nat) : bt s (i : Int) = ((L s).getD i 0 : Nat) := by
  unfold bt L
  simp only [Int.toNat_natCast]
  split
  · rename_i h
    have h' : i < s.data.toList.length := by rw [data_length]; exact h
    rw [List.getD_eq_getElem?_getD, List.getElem?_map, List.getElem?_eq_getElem h']
    rfl
  · rename_i h
    have h' : s.data.toList.length ≤ i := by rw [data_length]; omega
    rw [List.getD_eq_getElem?_getD, List.getElem?_map, List.getElem?_eq_none h']
    rfl
theorem toList_eq (s : ByteArray) : s.toList = s.data.toList := ByteArray.toList_eq s
theorem toList_inj {s t : ByteArray} : s.toList = t.toList ↔ s = t := by
  constructor
  · intro h
    rw [toList_eq, toList_eq] at h
    exact L_inj (by unfold L; rw [h])
  · rintro rfl; rfl
theorem toList_nil {s : ByteArray} : s.toList = ([] : List UInt8) ↔ s.size = 0 := by
  rw [toList_eq]
  constructor
  · intro h; have := congrArg List.length h; rwa [data_length] at this
  · intro h; exact List.eq_nil_of_length_eq_zero (by rw [data_length]; exact h)
theorem L_nums (l : List Int) (h : ∀ x ∈ l, 0 ≤ x ∧ x < 256) : L (strOfNums l) = l.map Int.toNat := by
  unfold L
  rw [strOfNums_data, List.map_map]
  apply List.map_congr_left
  intro x hx
  have := h x hx
  simp only [Function.comp]
  rw [UInt8.toNat_ofNat_of_lt' (by have := h x hx; show x.toNat < 256; omega)]
theorem bytes_L (s : ByteArray) : bytesOf s = (L s).map fun b : Nat => (b : Int) := by unfold bytesOf L; rw [List.map_map]; rfl

/-! ### a list of bytes, the highest first, as a number -/
def valL (l : List Nat) : Nat := l.foldl (fun n b => n * 256 + b) 0
theorem valL_nil : valL [] = 0 := rfl
theorem foldl_val (l : List Nat) (n : Nat) : l.foldl (fun n b => n * 256 + b) n = n * 256 ^ l.length + valL l := by
  unfold valL
  induction l generalizing n with
  | nil => simp
  | cons a l ih =>
    simp only [List.foldl_cons, List.length_cons]
    rw [ih (n * 256 + a), ih (0 * 256 + a), Nat.pow_succ]
    simp only [Nat.zero_mul, Nat.zero_add, Nat.add_mul]
    rw [Nat.mul_assoc, Nat.mul_comm 256, Nat.add_assoc]
theorem valL_append (a b : List Nat) : valL (a ++ b) = valL a * 256 ^ b.length + valL b := by
  conv => lhs; unfold valL
  rw [List.foldl_append, foldl_val]
  rfl
theorem valL_snoc (a : List Nat) (b : Nat) : valL (a ++ [b]) = valL a * 256 + b := by rw [valL_append]; simp [valL]
theorem valL_cons (b : Nat) (l : List Nat) : valL (b :: l) = b * 256 ^ l.length + valL l := by
  have := valL_append [b] l
  simpa [valL] using this
theorem valL_lt (l : List Nat) (h : ∀ b ∈ l, b < 256) : valL l < 256 ^ l.length := by
  induction l with
  | nil => simp [valL]
  | cons a l ih =>
    rw [valL_cons, List.length_cons, Nat.pow_succ]
    have h1 := ih (fun b hb => h b (List.mem_cons_of_mem _ hb))
    have h2 := h a (List.mem_cons_self ..)
    have h3 : a * 256 ^ l.length ≤ 255 * 256 ^ l.length := Nat.mul_le_mul_right _ (by omega)
    omega

/-- A number's bytes, none of them a 0 ahead. -/
def digs (n : Nat) : List Nat := if h : n = 0 then [] else digs (n / 256) ++ [n % 256]
termination_by n
decreasing_by omega
theorem digs_zero : digs 0 = [] := by rw [digs]; simp
theorem digs_pos {n : Nat} (h : n ≠ 0) : digs n = digs (n / 256) ++ [n % 256] := by rw [digs]; simp [h]
theorem digs_lt (n : Nat) : ∀ b ∈ digs n, b < 256 := by
  induction n using Nat.strongRecOn with
  | _ n ih =>
    by_cases h : n = 0
    · subst h; simp [digs_zero]
    · rw [digs_pos h]
      intro b hb
      rcases List.mem_append.1 hb with hb | hb
      · exact ih (n / 256) (by omega) b hb
      · simp at hb; omega
theorem val_digs (n : Nat) : valL (digs n) = n := by
  induction n using Nat.strongRecOn with
  | _ n ih =>
    by_cases h : n = 0
    · subst h; simp [digs_zero, valL]
    · rw [digs_pos h, valL_snoc, ih (n / 256) (by omega)]; omega
theorem digs_head (n : Nat) : ∀ b l, digs n = b :: l → b ≠ 0 := by
  induction n using Nat.strongRecOn with
  | _ n ih =>
    intro b l e
    by_cases h : n = 0
    · subst h; simp [digs_zero] at e
    · rw [digs_pos h] at e
      by_cases h2 : n / 256 = 0
      · rw [h2, digs_zero] at e
        simp at e
        omega
      · cases hd : digs (n / 256) with
        | nil => exact absurd (by rw [← val_digs (n / 256), hd]; rfl) h2
        | cons c l2 =>
          rw [hd] at e
          simp at e
          rw [← e.1]
          exact ih (n / 256) (by omega) c l2 hd
/-- Bytes 0 ahead fall away. -/
def trimL : List Nat → List Nat
  | [] => []
  | b :: l => if b = 0 then trimL l else b :: l
theorem snoc_ind {P : List Nat → Prop} (h0 : P []) (h1 : ∀ l b, P l → P (l ++ [b])) : ∀ l, P l := by
  intro l
  have : P l.reverse.reverse := by
    induction l.reverse with
    | nil => exact h0
    | cons b l ih => rw [List.reverse_cons]; exact h1 _ _ ih
  rwa [List.reverse_reverse] at this
theorem digs_val (l : List Nat) (h : ∀ b ∈ l, b < 256) : digs (valL l) = trimL l := by
  revert h
  refine snoc_ind (P := fun l => (∀ b ∈ l, b < 256) → digs (valL l) = trimL l) ?_ ?_ l
  · intro _; simp [valL, digs_zero, trimL]
  · intro l b ih h
    have hb : b < 256 := h b (by simp)
    have h' : ∀ x ∈ l, x < 256 := fun x hx => h x (by simp [hx])
    rw [valL_snoc]
    have key : ∀ l : List Nat, trimL (l ++ [b]) = if trimL l = [] then (if b = 0 then [] else [b]) else trimL l ++ [b] := by
      intro l
      induction l with
      | nil => simp [trimL]
      | cons a l ih =>
        simp only [List.cons_append, trimL]
        split
        · exact ih
        · simp
    rw [key]
    by_cases hz : valL l = 0
    · have ht : trimL l = [] := by rw [← ih h', hz, digs_zero]
      rw [hz, ht]
      simp only [Nat.zero_mul, Nat.zero_add, if_true]
      by_cases hb0 : b = 0
      · subst hb0; simp [digs_zero]
      · rw [digs_pos hb0, show b / 256 = 0 by omega, digs_zero, if_neg hb0, show b % 256 = b by omega]; rfl
    · have ht : trimL l ≠ [] := by
        rw [← ih h']
        intro e
        have := val_digs (valL l)
        rw [e] at this
        exact hz this.symm
      rw [if_neg ht, digs_pos (by omega), show (valL l * 256 + b) / 256 = valL l by omega, show (valL l * 256 + b) % 256 = b by omega, ih h']
theorem digs_length_le {n k : Nat} (h : n < 256 ^ k) : (digs n).length ≤ k := by
  induction k generalizing n with
  | zero => have : n = 0 := by simpa using h
            subst this; simp [digs_zero]
  | succ k ih =>
    by_cases h0 : n = 0
    · subst h0; simp [digs_zero]
    · rw [digs_pos h0, List.length_append]
      have := ih (n := n / 256) (by rw [Nat.pow_succ] at h; omega)
      simp; omega
theorem lt_of_digs_length (n : Nat) : n < 256 ^ (digs n).length := by
  have := valL_lt (digs n) (digs_lt n)
  rwa [val_digs] at this

/-- The text of a natural, and the natural of a text. -/
def nat (n : Nat) : ByteArray := ⟨((digs n).map UInt8.ofNat).toArray⟩
def val (s : ByteArray) : Nat := valL (L s)
theorem L_nat (n : Nat) : L (nat n) = digs n := by
  unfold L nat
  rw [List.map_map]
  conv => rhs; rw [← List.map_id (digs n)]
  apply List.map_congr_left
  intro b hb
  have := digs_lt n b hb
  simp only [Function.comp, id]
  exact UInt8.toNat_ofNat_of_lt' this
theorem val_nat (n : Nat) : val (nat n) = n := by unfold val; rw [L_nat, val_digs]
theorem nat_inj {m n : Nat} : nat m = nat n ↔ m = n := ⟨fun h => by rw [← val_nat m, h, val_nat], fun h => by rw [h]⟩
theorem L_trim (s : ByteArray) : L (nat (val s)) = trimL (L s) := by rw [L_nat]; exact digs_val _ (L_lt s)
theorem nat_size (n : Nat) : (nat n).size = (digs n).length := by rw [← L_length, L_nat]
theorem nat_size_le {n k : Nat} (h : n < 256 ^ k) : (nat n).size ≤ k := by rw [nat_size]; exact digs_length_le h
theorem val_lt (s : ByteArray) : val s < 256 ^ s.size := by
  have := valL_lt (L s) (L_lt s)
  rwa [L_length] at this
theorem nat_val_size (s : ByteArray) : (nat (val s)).size ≤ s.size := nat_size_le (val_lt s)
theorem nat_zero : nat 0 = ⟨#[]⟩ := by apply L_inj; rw [L_nat, digs_zero]; rfl
theorem nat_size_zero {n : Nat} : (nat n).size = 0 ↔ n = 0 := by
  constructor
  · intro h
    have := val_lt (nat n)
    rw [val_nat, h] at this
    simpa using this
  · rintro rfl; rw [nat_zero]; rfl
theorem nat_eq_nil {n : Nat} : nat n = (⟨#[]⟩ : ByteArray) ↔ n = 0 := by rw [← nat_zero, nat_inj]
theorem nat_toList_nil {n : Nat} : (nat n).toList = ([] : List UInt8) ↔ n = 0 := by rw [toList_nil, nat_size_zero]
theorem nat_toList {m n : Nat} : (nat m).toList = (nat n).toList ↔ m = n := by rw [toList_inj, nat_inj]
theorem trim_fix {s : ByteArray} (h : ∀ b l, L s = b :: l → b ≠ 0) : nat (val s) = s := by
  apply L_inj
  rw [L_trim]
  cases hl : L s with
  | nil => rfl
  | cons b l => simp [trimL, h b l hl]
end Go.Proofs.YtcdcijhfjiahkaaDoorR.M
