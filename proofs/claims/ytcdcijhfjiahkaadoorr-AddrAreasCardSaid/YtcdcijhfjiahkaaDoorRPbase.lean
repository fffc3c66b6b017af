/- What the proofs over the prints share: rounds, words of the machine, digits: plain Lean, no program. -/
import Derived.Test.YtcdcijhfjiahkaaDoorRNum
import Derived.Test.YtcdcijhfjiahkaaDoorRWMore
import Derived.Sort.Walk0
namespace Go.Proofs.YtcdcijhfjiahkaaDoorR.P
open Go.RowKit Go.Proofs.YtcdcijhfjiahkaaDoorRW.PrintWords Go.Proofs.YtcdcijhfjiahkaaDoorRW.PrintMore Go.Proofs.YtcdcijhfjiahkaaDoorR.M
set_option linter.unusedVariables false
set_option linter.unusedSimpArgs false
theorem Ev.pos {α : Type} {c : Prop} [Decidable c] {a b : Nat → Option α} {r : α} (h : c) (k : Ev a r) : Ev (fun n => if c then a n else b n) r := Ev.congr (fun n => if_pos h) k
theorem Ev.neg {α : Type} {c : Prop} [Decidable c] {a b : Nat → Option α} {r : α} (h : ¬ c) (k : Ev b r) : Ev (fun n => if c then a n else b n) r := Ev.congr (fun n => if_neg h) k
theorem w64 {x : Int} (h0 : -9223372036854775808 ≤ x) (h1 : x < 9223372036854775808) : wrap64 x = x := by unfold wrap64; omega
theorem u64 (x : Int) : IntKind.u64.wrap x = x % 18446744073709551616 := by simp [IntKind.wrap, IntKind.bits, IntKind.signed]
theorem wraps_u32 (n : Int) (h₀ : 0 ≤ n) (h₁ : n < 2 ^ 32) : IntKind.u32.wrap n = n := by rw [IntKind.wrap_u32]; omega
theorem wraps_u64 (n : Int) (h₀ : 0 ≤ n) (h₁ : n < 2 ^ 64) : IntKind.u64.wrap n = n := by rw [u64]; omega
theorem wraps_i64 (n : Int) (h₀ : 0 ≤ n) (h₁ : n < 2 ^ 63) : IntKind.i64.wrap n = n := by rw [IntKind.wrap_i64]; omega
theorem or_u32 (x y : Int) (h0 : 0 ≤ x) (h1 : x < 16777216) (h2 : 0 ≤ y) (h3 : y < 256) : Go.bits .or .u32 ((x * 256) % 4294967296) (y % 4294967296) = x * 256 + y := by
  rw [show (x * 256) % 4294967296 = x * 256 by omega, show y % 4294967296 = y by omega]
  exact bits_join .u32 32 (by decide) wraps_u32 8 (x * 256) y (by omega) (by omega) (by omega) h2 (by omega) (by omega)
theorem or_u64 (x y : Int) (i : Nat) (h0 : 0 ≤ x) (hx : x % 2 ^ i = 0) (h1 : x < 18446744073709551616) (h2 : 0 ≤ y) (h3 : y < 2 ^ i) (h4 : y < 18446744073709551616) : Go.bits .or .u64 x y = x + y :=
  bits_join .u64 64 (by decide) wraps_u64 i x y h0 hx (by omega) h2 h3 (by omega)
theorem and_u64 (x : Int) (h0 : 0 ≤ x) (h1 : x < 18446744073709551616) : Go.bits .and .u64 x 255 = x % 256 :=
  bits_mask .u64 64 (by decide) wraps_u64 8 (by decide) x h0 (by omega)
theorem and_i64 (x : Int) (h0 : 0 ≤ x) (h1 : x < 9223372036854775808) : Go.bits .and .i64 x 255 = x % 256 :=
  bits_mask .i64 63 (by decide) wraps_i64 8 (by decide) x h0 (by omega)
theorem ltrim (l0 : Nat → ByteArray → Option ByteArray)
    (hs : ∀ k x0, l0 (k + 1) x0 = if (x0.size : Int) > 0 then (if 0 < (x0.size : Int) then (if (bt x0 0) = 0 then (if 1 ≤ (x0.size : Int) then (l0 k (x0.extract 1 x0.size)) else (none)) else (some x0)) else (none)) else (some x0))
    (s : ByteArray) : Ev (fun k => l0 k s) (nat (val s)) := by
  suffices h : ∀ n s, s.size = n → Ev (fun k => l0 k s) (nat (val s)) from h _ s rfl
  intro n
  induction n with
  | zero =>
    intro s h
    refine Ev.step (fun k => hs k s) ?_
    refine Ev.neg (by omega) ?_
    have : nat (val s) = s := trim_fix (fun b l hl => by have := L_length s; rw [hl, h] at this; simp at this)
    rw [this]
    exact Ev.now _
  | succ n ih =>
    intro s h
    refine Ev.step (fun k => hs k s) ?_
    refine Ev.pos (by omega) ?_
    refine Ev.pos (by omega) ?_
    have hb : bt s 0 = ((L s).getD 0 0 : Nat) := bt_L s 0
    cases hl : L s with
    | nil => have := L_length s; rw [hl, h] at this; simp at this
    | cons b l =>
      rw [hl] at hb
      simp at hb
      by_cases h0 : b = 0
      · refine Ev.pos (by omega) ?_
        refine Ev.pos (by omega) ?_
        have h1 : L (s.extract 1 s.size) = l := by rw [L_extract, List.take_of_length_le (by rw [L_length]; omega), hl]; rfl
        have h2 : nat (val s) = nat (val (s.extract 1 s.size)) := by
          apply L_inj
          rw [L_trim, L_trim, h1, hl, trimL, if_pos h0]
        rw [h2]
        refine ih _ ?_
        rw [← L_length, h1]
        have := L_length s
        rw [hl, h] at this
        simpa using this
      · refine Ev.neg (by omega) ?_
        rw [trim_fix (fun b' l' hl' => by rw [hl] at hl'; cases hl'; exact h0)]
        exact Ev.now _
theorem bt_zero : bt (⟨#[0]⟩ : ByteArray) 0 = 0 := by decide
theorem rd_nat (l : List Int) (i : Nat) : rd l (i : Int) = l.getD i 0 := rfl
def fold (t : List Int) (x : Int) : Int := t.foldl (fun x b => x * 256 + b) x
theorem fold_val (l : List Nat) : ∀ x : Nat, fold (l.map fun b : Nat => (b : Int)) x = ((x * 256 ^ l.length + valL l : Nat) : Int) := by
  intro x
  rw [← foldl_val]
  unfold fold
  induction l generalizing x with
  | nil => rfl
  | cons a l ih =>
    simp only [List.map_cons, List.foldl_cons]
    rw [← ih (x * 256 + a)]
    congr 1
theorem bytes_ok (s : ByteArray) : ∀ b ∈ bytesOf s, 0 ≤ b ∧ b < 256 := by
  intro b hb
  rw [bytes_L, List.mem_map] at hb
  obtain ⟨c, hc, rfl⟩ := hb
  have := L_lt s c hc
  omega
theorem bytes_length (s : ByteArray) : (bytesOf s).length = s.size := by rw [bytes_L, List.length_map, L_length]
theorem Ev.bind' {α β : Type} {g : Nat → Option α} {f : Nat → α → Option β} {a : α} {r : β} (h : Ev g a) (k : Ev (fun n => f n a) r) : Ev (fun n => (g n).bind fun t => f n t) r := Ev.bind h k
theorem Ev.some {α β : Type} {o : Option α} {f : Nat → α → Option β} {a : α} {r : β} (h : o = Option.some a) (k : Ev (fun n => f n a) r) : Ev (fun n => o.bind fun t => f n t) r := by
  subst h; exact k
theorem readSum0 (w n a b d : Nat) (h : a = 0) : w + 4294967296 ^ n * (a * 256 ^ d + b) = w + 4294967296 ^ n * b + 4294967296 ^ (n + 1) * a := by
  rw [h, Nat.zero_mul, Nat.zero_add, Nat.mul_zero, Nat.add_zero]
theorem readSum4 (w n a b d : Nat) (h : d = 4) : w + 4294967296 ^ n * (a * 256 ^ d + b) = w + 4294967296 ^ n * b + 4294967296 ^ (n + 1) * a := by
  have e : (256 : Nat) ^ d = 4294967296 := by rw [h]
  rw [e, Nat.pow_succ]
  generalize 4294967296 ^ n = P
  rw [Nat.mul_add, Nat.mul_comm a, Nat.mul_assoc]
  omega
def small (n : Nat) : Int × Bool := if n < 18446744073709551616 then ((n : Int), true) else (0, false)
theorem small_lt {n : Nat} (h : n < 18446744073709551616) : small n = ((n : Int), true) := if_pos h
theorem small_ge {n : Nat} (h : ¬ n < 18446744073709551616) : small n = (0, false) := if_neg h
def blen (n : Nat) : Nat := if h : n = 0 then 0 else blen (n / 2) + 1
termination_by n
decreasing_by omega
theorem blen_zero : blen 0 = 0 := by rw [blen]; simp
theorem blen_pos {n : Nat} (h : n ≠ 0) : blen n = blen (n / 2) + 1 := by rw [blen]; simp [h]
theorem bitLen_blen (n : Nat) : n < 2 ^ 64 → Lib.bitLen n = blen n := by
  induction n using Nat.strongRecOn with
  | _ n ih =>
    intro hn
    by_cases h : n = 0
    · subst h; rw [blen_zero]; exact Lib.bitLenAux_zero _
    · rw [Lib.bitLen_half n h hn, blen_pos h, ih (n / 2) (by omega) (by omega)]
      omega
theorem blen_shift (j n : Nat) (h : 2 ^ j ≤ n) : blen n = blen (n / 2 ^ j) + j := by
  induction j with
  | zero => simp
  | succ j ih =>
    rw [Nat.pow_succ] at h
    rw [ih (by omega), blen_pos (n := n / 2 ^ j) (by have := Nat.div_pos (a := n) (b := 2 ^ j) (by omega) (Nat.two_pow_pos j); omega), Nat.pow_succ, ← Nat.div_div_eq_div_mul]
    omega
theorem top_digit {B : Nat} (hB : 0 < B) {l : List Int} (h : Ok B l) (i : Nat) (hi : l.length = i + 1) : (l.getD i 0).toNat = W B l / B ^ i := by
  have h1 := W_take B l i
  rw [W_all B l (i + 1) (by omega)] at h1
  have h2 := W_lt (h.take i)
  rw [List.length_take, Nat.min_eq_left (by omega)] at h2
  rw [h1, Nat.add_mul_div_left _ _ (Nat.pow_pos hB), Nat.div_eq_of_lt h2]
  omega
theorem blen_le (n : Nat) (h : n < 2 ^ 32) : blen n ≤ 32 := by
  rw [← bitLen_blen n (by omega)]; exact Lib.bitLen_le n 32 (by decide) h
theorem nat_low {n : Nat} (h : n ≠ 0) : 256 ^ ((nat n).size - 1) ≤ n := by
  apply Classical.byContradiction
  intro hn
  have h1 := nat_size_le (n := n) (k := (nat n).size - 1) (by omega)
  have h2 : (nat n).size ≠ 0 := fun h2 => h (nat_size_zero.1 h2)
  omega
def sgn (a b : Nat) : Int := if a < b then -1 else if a = b then 0 else 1
theorem limbs_len_lt {a b : Nat} (h : (limbs a).length < (limbs b).length) : a < b := by
  have h1 := lt_limbs a
  have hb : b ≠ 0 := by rintro rfl; rw [limbs_zero] at h; simp at h
  have h2 := limbs_low hb
  have h3 : 4294967296 ^ (limbs a).length ≤ 4294967296 ^ ((limbs b).length - 1) := Nat.pow_le_pow_right (by decide) (by omega)
  omega
theorem bytesLess_val (x y : List UInt8) (h : x.length = y.length) : Op.bytesLess x y = decide (valL (x.map UInt8.toNat) < valL (y.map UInt8.toNat)) := by
  induction x generalizing y with
  | nil =>
    cases y with
    | nil => rfl
    | cons b y => simp at h
  | cons a x ih =>
    cases y with
    | nil => simp at h
    | cons b y =>
      have h' : x.length = y.length := by simpa using h
      have b1 := valL_lt (x.map UInt8.toNat) (by intro c hc; obtain ⟨u, _, rfl⟩ := List.mem_map.1 hc; exact u.toNat_lt)
      have b2 := valL_lt (y.map UInt8.toNat) (by intro c hc; obtain ⟨u, _, rfl⟩ := List.mem_map.1 hc; exact u.toNat_lt)
      rw [List.length_map] at b1 b2
      rw [Op.bytesLess, ih y h', List.map_cons, List.map_cons, valL_cons, valL_cons, List.length_map, List.length_map, h']
      rw [h'] at b1
      generalize valL (x.map UInt8.toNat) = v at b1 ⊢
      generalize valL (y.map UInt8.toNat) = w at b2 ⊢
      generalize 256 ^ y.length = P at b1 b2 ⊢
      by_cases e : a = b
      · subst e
        simp [UInt8.lt_irrefl]
      · by_cases l : a < b
        · have l' := UInt8.lt_iff_toNat_lt.1 l
          have h3 : (a.toNat + 1) * P ≤ b.toNat * P := Nat.mul_le_mul_right _ (by omega)
          rw [Nat.add_mul] at h3
          simp only [l, decide_true, Bool.true_or]
          exact (decide_eq_true (by omega)).symm
        · have l' : ¬ a.toNat < b.toNat := fun h => l (UInt8.lt_iff_toNat_lt.2 h)
          have e' : a.toNat ≠ b.toNat := fun h => e (UInt8.toNat_inj.1 h)
          have h3 : (b.toNat + 1) * P ≤ a.toNat * P := Nat.mul_le_mul_right _ (by omega)
          rw [Nat.add_mul] at h3
          have e2 : (a == b) = false := beq_eq_false_iff_ne.2 e
          simp only [l, e2, decide_false, Bool.false_or, Bool.false_and]
          exact (decide_eq_false (by omega)).symm
theorem nat_len_lt {a b : Nat} (h : (nat a).size < (nat b).size) : a < b := by
  have h1 := val_lt (nat a)
  rw [val_nat] at h1
  have hb : b ≠ 0 := by rintro rfl; have := nat_size_zero.2 (rfl : 0 = 0); omega
  have h2 := nat_low hb
  have h3 : 256 ^ (nat a).size ≤ 256 ^ ((nat b).size - 1) := Nat.pow_le_pow_right (by decide) (by omega)
  omega
theorem add_step (P B w c a a' x y q r : Nat) (h : w + P * c = x + y) (hv : a + a' + c = B * q + r) : (w + P * r) + P * B * q = (x + P * a) + (y + P * a') := by
  have : P * (a + a' + c) = P * (B * q + r) := by rw [hv]
  grind
theorem sub_step (P B w c a a' x y q r : Nat) (h : w + y = x + P * c) (hv : r + a' + c = a + B * q) : (w + P * r) + (y + P * a') = (x + P * a) + P * B * q := by
  have : P * (r + a' + c) = P * (a + B * q) := by rw [hv]
  grind
structure Keep (p : Prop) : Prop where
  out : p
theorem w64_add (a b : Nat) (h : a + b < 9223372036854775808) : wrap64 ((a : Int) + (b : Int)) = ((a + b : Nat) : Int) := by rw [w64 (by omega) (by omega)]; omega
theorem w64_back (n i : Nat) (h : n < 9223372036854775807) (hi : i < n) : wrap64 (wrap64 ((n : Int) - 1) - (i : Int)) = ((n - 1 - i : Nat) : Int) := by
  rw [w64 (x := (n : Int) - 1) (by omega) (by omega), w64 (by omega) (by omega)]; omega
theorem w64_succ (a : Nat) (h : a + 1 < 9223372036854775808) : wrap64 ((a : Int) + 1) = ((a + 1 : Nat) : Int) := by rw [w64 (by omega) (by omega)]; omega
/-- A row of a product: digit j of the second number, at place p, with y the product's digit there, and c carried. -/
theorem mul_step (B P w w' x m c a b y q r Pi Pj : Nat) (h : w + P * c = x + a * Pi * m) (hp : P = Pi * Pj) (hset : w' + P * y = w + P * r) (hv : a * b + y + c = B * q + r) :
    w' + P * B * q = x + a * Pi * (m + Pj * b) := by
  subst hp
  have : Pi * Pj * (a * b + y + c) = Pi * Pj * (B * q + r) := by rw [hv]
  have h2 : w' + Pi * Pj * B * q + Pi * Pj * y + Pi * Pj * c = x + a * Pi * (m + Pj * b) + Pi * Pj * y + Pi * Pj * c := by grind
  omega
theorem mul_row (B : Nat) (Pi Pl w w' x m c a : Nat) (h : w + Pi * Pl * c = x + a * Pi * m) (hset : w' + Pi * Pl * 0 = w + Pi * Pl * c) (hx : ∃ u, x = u * m ) : w' = x + Pi * a * m := by
  have : a * Pi * m = Pi * a * m := by rw [Nat.mul_comm a]
  omega
theorem getD_zero_of_lt {B : Nat} (hB : 0 < B) {l : List Int} (h : Ok B l) (p : Nat) (hp : p < l.length) (hw : W B l < B ^ p) : l.getD p 0 = 0 := by
  have h1 := W_take B l p
  have h2 := W_split B l (p + 1) (by omega)
  have h3 := h.getD hB p
  have h4 : B ^ p * 1 ≤ B ^ p * (l.getD p 0).toNat ∨ (l.getD p 0).toNat = 0 := by
    by_cases h0 : (l.getD p 0).toNat = 0
    · exact .inr h0
    · exact .inl (Nat.mul_le_mul_left _ (by omega))
  rcases h4 with h4 | h4 <;> omega
theorem le_mul_pred {a b B : Nat} (ha : a < B) (hb : b < B) : a * b + 2 * B ≤ B * B + 1 := by
  obtain ⟨x, rfl⟩ : ∃ x, B = a + 1 + x := ⟨B - (a + 1), by omega⟩
  obtain ⟨y, hy⟩ : ∃ y, a + 1 + x = b + 1 + y := ⟨a + 1 + x - (b + 1), by omega⟩
  have h1 : a * b ≤ (a + x) * (b + y) := Nat.mul_le_mul (by omega) (by omega)
  have h2 : b + y = a + x := by omega
  rw [h2] at h1
  have h3 : (a + 1 + x) * (a + 1 + x) = (a + x) * (a + x) + 2 * (a + x) + 1 := by grind
  omega
theorem W_set' (B : Nat) (l : List Int) (p : Nat) (v : Nat) (h : p < l.length) : W B (l.set p (v : Int)) + B ^ p * (l.getD p 0).toNat = W B l + B ^ p * v := W_set B l p v h
theorem W_revBytes (l : List Int) (h : Ok 256 l) : valL (l.reverse.map Int.toNat) = W 256 l := by
  rw [← W_rev, List.map_map]
  congr 1
  have : l.reverse.map ((fun b : Nat => (b : Int)) ∘ Int.toNat) = l.reverse := by
    conv => rhs; rw [← List.map_id l.reverse]
    apply List.map_congr_left
    intro x hx
    have := h x (by simpa using hx)
    simp only [Function.comp, id]
    omega
  rw [this, List.reverse_reverse]
theorem W_Rall (s : ByteArray) (i : Nat) (h : s.size ≤ i) : W 256 ((R s).take i) = val s := by rw [W_all _ _ _ (by rw [R_length]; omega), W_R]
theorem nat_of {s : ByteArray} {n : Nat} (hv : val s = n) (hd : ∀ b l, L s = b :: l → b ≠ 0) : nat n = s := by rw [← hv]; exact trim_fix hd
end Go.Proofs.YtcdcijhfjiahkaaDoorR.P
