/- What the printed functions of the package of naturals and of its reference answer: plain Lean over the prints. -/
import Derived.Test.YtcdcijhfjiahkaaDoorRX5
import Derived.Test.YtcdcijhfjiahkaaDoorRNum
import Derived.Sort.Walk0
namespace Go.Proofs.YtcdcijhfjiahkaaDoorR.P
open Go.RowKit Go.Proofs.YtcdcijhfjiahkaaDoorRW.PrintWords Go.Proofs.YtcdcijhfjiahkaaDoorRW.PrintMore Go.Proofs.YtcdcijhfjiahkaaDoorR.M Go.Proofs.YtcdcijhfjiahkaaDoorR.X
set_option linter.unusedVariables false
set_option linter.unusedSimpArgs false

theorem Ev.pos {α : Type} {c : Prop} [Decidable c] {a b : Nat → Option α} {r : α} (h : c) (k : Ev a r) : Ev (fun n => if c then a n else b n) r := Ev.congr (fun n => if_pos h) k
theorem Ev.neg {α : Type} {c : Prop} [Decidable c] {a b : Nat → Option α} {r : α} (h : ¬ c) (k : Ev b r) : Ev (fun n => if c then a n else b n) r := Ev.congr (fun n => if_neg h) k
theorem w64 {x : Int} (h0 : -9223372036854775808 ≤ x) (h1 : x < 9223372036854775808) : wrap64 x = x := by unfold wrap64; omega
theorem u64 (x : Int) : IntKind.u64.wrap x = x % 18446744073709551616 := by simp [IntKind.wrap, IntKind.bits, IntKind.signed]
theorem wraps_u32 (n : Int) (h₀ : 0 ≤ n) (h₁ : n < 2 ^ 32) : IntKind.u32.wrap n = n := by rw [IntKind.wrap_u32]; omega
theorem wraps_u64 (n : Int) (h₀ : 0 ≤ n) (h₁ : n < 2 ^ 64) : IntKind.u64.wrap n = n := by rw [u64]; omega
theorem wraps_i64 (n : Int) (h₀ : 0 ≤ n) (h₁ : n < 2 ^ 63) : IntKind.i64.wrap n = n := by rw [IntKind.wrap_i64]; omega
theorem or_u32 (x y : Int) (h0 : 0 ≤ x) (h1 : x < 16777216) (h2 : 0 ≤ y) (h3 : y < 256) : Go.bits .or .u32 ((x * 256) % 4294967296) (y % 4294967296) = x * 256 + y := by
  rw [show (x * 256) % 4294967296 = x * 256 by omega, show y % 4294967296 = y by omega]
  exact bits_join .u32 32 (by decide) wraps_u32 8 (x * 256) y (by omega) (by omega) (by omega) h2 (by omega) (by omega)
theorem or_u64 (x y : Int) (i : Nat) (h0 : 0 ≤ x) (hx : x % 2 ^ i = 0) (h1 : x < 18446744073709551616) (h2 : 0 ≤ y) (h3 : y < 2 ^ i) (h4 : y < 18446744073709551616) : Go.bits .or .u64 x y = x + y :=
  bits_join .u64 64 (by decide) wraps_u64 i x y h0 hx (by omega) h2 h3 (by omega)
theorem and_u64 (x : Int) (h0 : 0 ≤ x) (h1 : x < 18446744073709551616) : Go.bits .and .u64 x 255 = x % 256 :=
  bits_mask .u64 64 (by decide) wraps_u64 8 (by decide) x h0 (by omega)
theorem and_i64 (x : Int) (h0 : 0 ≤ x) (h1 : x < 9223372036854775808) : Go.bits .and .i64 x 255 = x % 256 :=
  bits_mask .i64 63 (by decide) wraps_i64 8 (by decide) x h0 (by omega)

/-! ### a 0 ahead falls away -/
theorem ltrim (l0 : Nat → ByteArray → Option ByteArray)
    (hs : ∀ k x0, l0 (k + 1) x0 = if (x0.size : Int) > 0 then (if 0 < (x0.size : Int) then (if (bt x0 0) = 0 then (if 1 ≤ (x0.size : Int) then (l0 k (x0.extract 1 x0.size)) else (none)) else (some x0)) else (none)) else (some x0))
    (s : ByteArray) : Ev (fun k => l0 k s) (nat (val s)) := by
  suffices h : ∀ n s, s.size = n → Ev (fun k => l0 k s) (nat (val s)) from h _ s rfl
  intro n
  induction n with
  | zero =>
    intro s h
    refine Ev.step (fun k => hs k s) ?_
    refine Ev.neg (by omega) ?_
    have : nat (val s) = s := trim_fix (fun b l hl => by have := L_length s; rw [hl, h] at this; simp at this)
    rw [this]
    exact Ev.now _
  | succ n ih =>
    intro s h
    refine Ev.step (fun k => hs k s) ?_
    refine Ev.pos (by omega) ?_
    refine Ev.pos (by omega) ?_
    have hb : bt s 0 = ((L s).getD 0 0 : Nat) := bt_L s 0
    cases hl : L s with
    | nil => have := L_length s; rw [hl, h] at this; simp at this
    | cons b l =>
      rw [hl] at hb
      simp at hb
      by_cases h0 : b = 0
      · refine Ev.pos (by omega) ?_
        refine Ev.pos (by omega) ?_
        have h1 : L (s.extract 1 s.size) = l := by rw [L_extract, List.take_of_length_le (by rw [L_length]; omega), hl]; rfl
        have h2 : nat (val s) = nat (val (s.extract 1 s.size)) := by
          apply L_inj
          rw [L_trim, L_trim, h1, hl, trimL, if_pos h0]
        rw [h2]
        refine ih _ ?_
        rw [← L_length, h1]
        have := L_length s
        rw [hl, h] at this
        simpa using this
      · refine Ev.neg (by omega) ?_
        rw [trim_fix (fun b' l' hl' => by rw [hl] at hl'; cases hl'; exact h0)]
        exact Ev.now _
theorem refTrim (s : ByteArray) : Ev (fun k => abacistref01_Trim.f k s) (nat (val s)) := ltrim abacistref01_Trim.l0 (fun k x0 => by rw [abacistref01_Trim.l0]) s
theorem trimByte (s : ByteArray) : Ev (fun k => strings_trimLeftByte.f k s 0) (nat (val s)) := ltrim (fun k x0 => strings_trimLeftByte.l0 k x0 0) (fun k x0 => by rw [strings_trimLeftByte.l0]) s
theorem bt_zero : bt (⟨#[0]⟩ : ByteArray) 0 = 0 := by decide
theorem natTrim (s : ByteArray) : Ev (fun k => nat_Trim.f k s) (nat (val s)) := by
  unfold nat_Trim.f
  refine Ev.bind ?_ (Ev.now _)
  unfold strings_TrimLeft.f
  by_cases h : s.toList = ([] : List UInt8)
  · refine Ev.congr (fun k => if_pos h) ?_
    refine Ev.step (fun k => by rw [strings_TrimLeft.j0]) ?_
    refine Ev.pos rfl ?_
    rw [trim_fix (fun b l hl => by have := L_length s; rw [hl, toList_nil.1 h] at this; simp at this)]
    exact Ev.now _
  · refine Ev.congr (fun k => if_neg h) ?_
    have h1 : (((⟨#[0]⟩ : ByteArray).toList) == ([] : List UInt8)) = false := by rw [toList_eq]; rfl
    rw [h1]
    have h2 : (ByteArray.mk #[0]).size = 1 := rfl
    refine Ev.step (fun k => by rw [strings_TrimLeft.j0]) ?_
    refine Ev.neg (by decide) ?_
    refine Ev.pos (by rw [h2]; rfl) ?_
    refine Ev.pos (by rw [h2]; decide) ?_
    rw [bt_zero]
    refine Ev.step (fun k => by rw [strings_TrimLeft.j1]) ?_
    refine Ev.pos (by decide) ?_
    refine Ev.pos (by rw [h2]; decide) ?_
    rw [bt_zero]
    exact Ev.bind (trimByte s) (Ev.now _)

/-! ### cut -/
theorem rd_nat (l : List Int) (i : Nat) : rd l (i : Int) = l.getD i 0 := rfl
theorem natCut (l : List Int) (hl : l.length ≤ 140737488355328) : Ev (fun k => nat_limbs_cut.f k l) (cutW l) := by
  unfold nat_limbs_cut.f
  suffices h : ∀ n l, l.length = n → n ≤ 140737488355328 → Ev (fun k => nat_limbs_cut.l0 k l) (cutW l) from h _ l rfl hl
  intro n
  induction n with
  | zero =>
    intro l h _
    have : l = [] := List.eq_nil_of_length_eq_zero h
    subst this
    refine Ev.step (fun k => by rw [nat_limbs_cut.l0]) ?_
    refine Ev.neg (by simp) ?_
    exact Ev.now _
  | succ n ih =>
    intro l h hn
    refine Ev.step (fun k => by rw [nat_limbs_cut.l0]) ?_
    have hw : wrap64 ((l.length : Int) - 1) = (n : Int) := by rw [w64 (by omega) (by omega)]; omega
    rw [hw]
    refine Ev.pos (by omega) ?_
    refine Ev.pos (by omega) ?_
    refine Ev.pos (by omega) ?_
    rw [rd_nat, Int.toNat_natCast]
    have he : l = l.take n ++ [l.getD n 0] := by
      have := take_succ' l n (by omega)
      rwa [List.take_of_length_le (by omega)] at this
    by_cases h0 : l.getD n 0 = 0
    · refine Ev.pos h0 ?_
      refine Ev.pos (by omega) ?_
      have : cutW l = cutW (l.take n) := by
        conv => lhs; rw [he, h0]
        exact cutW_snoc0 _
      rw [this]
      exact ih _ (by rw [List.length_take]; omega) (by omega)
    · refine Ev.neg h0 ?_
      have : cutW l = l := by
        conv => lhs; rw [he]
        rw [cutW_snoc _ _ h0, ← he]
      rw [this]
      exact Ev.now _
theorem natCutW {l : List Int} (h : Ok 4294967296 l) (hl : l.length ≤ 140737488355328) : Ev (fun k => nat_limbs_cut.f k l) (limbs (W 4294967296 l)) := by
  rw [← cutW_limbs h]; exact natCut l hl

/-! ### read -/
def fold (t : List Int) (x : Int) : Int := t.foldl (fun x b => x * 256 + b) x
theorem fold_val (l : List Nat) : ∀ x : Nat, fold (l.map fun b : Nat => (b : Int)) x = ((x * 256 ^ l.length + valL l : Nat) : Int) := by
  intro x
  rw [← foldl_val]
  unfold fold
  induction l generalizing x with
  | nil => rfl
  | cons a l ih =>
    simp only [List.map_cons, List.foldl_cons]
    rw [← ih (x * 256 + a)]
    congr 1
theorem bytes_ok (s : ByteArray) : ∀ b ∈ bytesOf s, 0 ≤ b ∧ b < 256 := by
  intro b hb
  rw [bytes_L, List.mem_map] at hb
  obtain ⟨c, hc, rfl⟩ := hb
  have := L_lt s c hc
  omega
theorem bytes_length (s : ByteArray) : (bytesOf s).length = s.size := by rw [bytes_L, List.length_map, L_length]
theorem readRow (t : List Int) (ht : ∀ b ∈ t, 0 ≤ b ∧ b < 256) (hl : t.length ≤ 4) (x0 : ByteArray) (x3 : List Int) (m : Int) (hm0 : 0 ≤ m) (hm1 : m ≤ (x0.size : Int)) (h3 : x3.length < 35184372088832) (r : List Int)
    (h : Ev (fun k => nat_read.l0 k (x0.extract 0 m.toNat) (x3 ++ [fold t 0])) r) : Ev (fun k => nat_read.l1 k x0 x3 m 0 t (t.length : Int) 0) r := by
  suffices hh : ∀ (d i : Nat) (x : Int), i + d = t.length → 0 ≤ x → x < ((256 ^ i : Nat) : Int) → fold (t.drop i) x = fold t 0 → Ev (fun k => nat_read.l1 k x0 x3 m x t (t.length : Int) (i : Int)) r from
    hh t.length 0 0 (by omega) (by omega) (by simp) rfl
  intro d
  induction d with
  | zero =>
    intro i x hi h0 h1 hf
    refine Ev.step (fun k => by rw [nat_read.l1]) ?_
    refine Ev.neg (by omega) ?_
    refine Ev.pos h3 ?_
    refine Ev.pos hm0 ?_
    refine Ev.pos hm1 ?_
    rw [List.drop_of_length_le (by omega)] at hf
    have : x = fold t 0 := hf
    rw [this]
    exact h
  | succ d ih =>
    intro i x hi h0 h1 hf
    refine Ev.step (fun k => by rw [nat_read.l1]) ?_
    refine Ev.pos (by omega) ?_
    refine Ev.pos (by omega) ?_
    refine Ev.pos (by omega) ?_
    rw [rd_nat]
    have hb : t.getD i 0 = t[i]'(by omega) := by rw [List.getD_eq_getElem?_getD, List.getElem?_eq_getElem (by omega)]; rfl
    have hb2 := ht _ (List.getElem_mem (show i < t.length by omega))
    have hx : x < 16777216 := by
      have : 256 ^ i ≤ 256 ^ 3 := Nat.pow_le_pow_right (show 0 < 256 by decide) (show i ≤ 3 by omega)
      omega
    rw [hb, or_u32 x _ h0 hx hb2.1 hb2.2, w64 (by omega) (by omega), show ((i : Int) + 1) = ((i + 1 : Nat) : Int) by omega]
    refine ih (i + 1) _ (by omega) (by omega) ?_ ?_
    · rw [Nat.pow_succ]; omega
    · rw [← hf, List.drop_eq_getElem_cons (show i < t.length by omega)]
      rfl
theorem Ev.bind' {α β : Type} {g : Nat → Option α} {f : Nat → α → Option β} {a : α} {r : β} (h : Ev g a) (k : Ev (fun n => f n a) r) : Ev (fun n => (g n).bind fun t => f n t) r := Ev.bind h k
theorem Ev.some {α β : Type} {o : Option α} {f : Nat → α → Option β} {a : α} {r : β} (h : o = Option.some a) (k : Ev (fun n => f n a) r) : Ev (fun n => o.bind fun t => f n t) r := by
  subst h; exact k
theorem readSum0 (w n a b d : Nat) (h : a = 0) : w + 4294967296 ^ n * (a * 256 ^ d + b) = w + 4294967296 ^ n * b + 4294967296 ^ (n + 1) * a := by
  rw [h, Nat.zero_mul, Nat.zero_add, Nat.mul_zero, Nat.add_zero]
theorem readSum4 (w n a b d : Nat) (h : d = 4) : w + 4294967296 ^ n * (a * 256 ^ d + b) = w + 4294967296 ^ n * b + 4294967296 ^ (n + 1) * a := by
  have e : (256 : Nat) ^ d = 4294967296 := by rw [h]
  rw [e, Nat.pow_succ]
  generalize 4294967296 ^ n = P
  rw [Nat.mul_add, Nat.mul_comm a, Nat.mul_assoc]
  omega
theorem natRead (s : ByteArray) (hs : s.size ≤ 140737488351232) : Ev (fun k => nat_read.f k s) (limbs (val s)) := by
  unfold nat_read.f
  suffices h : ∀ n (s : ByteArray) (x3 : List Int), s.size = n → Ok 4294967296 x3 → x3.length * 4 + n ≤ 140737488351236 →
      Ev (fun k => nat_read.l0 k s x3) (limbs (W 4294967296 x3 + 4294967296 ^ x3.length * val s)) by
    have := h s.size s [] rfl (Ok.nil _) (by simp; omega)
    simpa [W] using this
  intro n
  induction n using Nat.strongRecOn with
  | _ n ih =>
    intro s x3 h hk hb
    refine Ev.step (fun k => by rw [nat_read.l0]) ?_
    by_cases hz : s.size = 0
    · refine Ev.neg (by omega) ?_
      have : val s = 0 := by have := val_lt s; rw [hz] at this; simpa using this
      rw [this, Nat.mul_zero, Nat.add_zero]
      exact Ev.bind (natCutW hk (by omega)) (Ev.now _)
    · refine Ev.pos (by omega) ?_
      rw [w64 (by omega) (by omega)]
      obtain ⟨m, hm, hm2⟩ : ∃ m : Nat, mx 0 ((s.size : Int) - 4) = (m : Int) ∧ m = s.size - 4 := ⟨s.size - 4, by unfold mx; split <;> omega, rfl⟩
      rw [hm]
      refine Ev.pos (by omega) ?_
      refine Ev.pos (by omega) ?_
      rw [Int.toNat_natCast]
      have hsz : (s.extract m s.size).size = s.size - m := by rw [← L_length, L_extract]; simp [L_length]
      refine Ev.some (a := bytesOf (s.extract m s.size)) (by unfold strBytes.f; rw [if_pos (by omega)]) ?_
      refine readRow _ (bytes_ok _) (by rw [bytes_length]; omega) s x3 m (by omega) (by omega) (by omega) _ ?_
      rw [Int.toNat_natCast]
      have hf : fold (bytesOf (s.extract m s.size)) 0 = ((val (s.extract m s.size) : Nat) : Int) := by
        rw [bytes_L]
        have := fold_val (L (s.extract m s.size)) 0
        simpa [val] using this
      rw [hf]
      have hlt : val (s.extract m s.size) < 4294967296 := by
        have := val_lt (s.extract m s.size)
        rw [hsz] at this
        have h2 : 256 ^ (s.size - m) ≤ 256 ^ 4 := Nat.pow_le_pow_right (by decide) (by omega)
        omega
      have hval : val s = val (s.extract 0 m) * 256 ^ (s.size - m) + val (s.extract m s.size) := by
        have e : L s = L (s.extract 0 m) ++ L (s.extract m s.size) := by
          rw [L_extract, L_extract, List.take_of_length_le (l := L s) (i := s.size) (by rw [L_length]; omega)]
          simp
        unfold val
        conv => lhs; rw [e]
        rw [valL_append, L_length (s.extract m s.size), hsz]
      have hsm : (s.extract 0 m).size = m := by rw [← L_length, L_extract]; simp [L_length]; omega
      have hfin : W 4294967296 x3 + 4294967296 ^ x3.length * val s = W 4294967296 (x3 ++ [((val (s.extract m s.size) : Nat) : Int)]) + 4294967296 ^ (x3 ++ [((val (s.extract m s.size) : Nat) : Int)]).length * val (s.extract 0 m) := by
        rw [W_snoc, hval, Int.toNat_natCast]
        simp only [List.length_append, List.length_cons, List.length_nil, Nat.zero_add]
        by_cases h4 : s.size ≤ 4
        · have hm0 : m = 0 := by omega
          have h0 : val (s.extract 0 m) = 0 := by have := val_lt (s.extract 0 m); rw [hsm, hm0] at this; rw [hm0]; simpa using this
          exact readSum0 _ _ _ _ _ h0
        · exact readSum4 _ _ _ _ _ (by omega)
      rw [hfin]
      refine ih m (by omega) _ _ hsm (hk.snoc (by omega) (by omega)) ?_
      simp only [List.length_append, List.length_cons, List.length_nil]
      omega

/-! ### at -/
theorem natAt (n i : Nat) (hi : i < 9223372036854775808) : nat_limbs_at.f (limbs n) (i : Int) = some ((n / 4294967296 ^ i % 4294967296 : Nat) : Int) := by
  unfold nat_limbs_at.f
  rw [← limbs_getD]
  by_cases h : i < (limbs n).length
  · rw [if_neg (by omega), if_pos (by omega), if_pos (by omega), rd_nat, u64]
    have := (limbs_ok n).getD (by decide) i
    rw [Int.emod_eq_of_lt (by omega) (by omega)]
  · rw [if_pos (by omega), List.getD_eq_getElem?_getD, List.getElem?_eq_none (by omega)]
    rfl
theorem atW {l : List Int} (h : Ok 4294967296 l) (i : Nat) : nat_limbs_at.f l (i : Int) = some (l.getD i 0) := by
  unfold nat_limbs_at.f
  by_cases hi : i < l.length
  · rw [if_neg (by omega), if_pos (by omega), if_pos (by omega), rd_nat, u64]
    have := h.getD (by decide) i
    rw [Int.emod_eq_of_lt (by omega) (by omega)]
  · rw [if_pos (by omega), List.getD_eq_getElem?_getD, List.getElem?_eq_none (by omega)]
    rfl

/-! ### text -/
theorem be4_ok (l : List Int) (h : Ok 4294967296 l) : ∀ x ∈ be4 l, 0 ≤ x ∧ x < 256 := by
  intro x hx
  unfold be4 at hx
  rw [List.mem_flatMap] at hx
  obtain ⟨n, hn, hx⟩ := hx
  have := h n hn
  simp only [List.mem_cons, List.not_mem_nil, or_false] at hx
  rcases hx with rfl | rfl | rfl | rfl <;> omega
theorem be4_snoc (l : List Int) (n : Int) : be4 (l ++ [n]) = be4 l ++ [n / 16777216 % 256, n / 65536 % 256, n / 256 % 256, n % 256] := by simp [be4]
theorem valL_be4 (l : List Int) (h : Ok 4294967296 l) : valL ((be4 l.reverse).map Int.toNat) = W 4294967296 l := by
  induction l with
  | nil => rfl
  | cons a l ih =>
    have ha := h a (List.mem_cons_self ..)
    rw [List.reverse_cons, be4_snoc, List.map_append, valL_append, ih (fun x hx => h x (List.mem_cons_of_mem _ hx)), W]
    simp only [List.map_cons, List.map_nil, List.length_cons, List.length_nil]
    have : valL [(a / 16777216 % 256).toNat, (a / 65536 % 256).toNat, (a / 256 % 256).toNat, (a % 256).toNat] = a.toNat := by
      simp only [valL, List.foldl_cons, List.foldl_nil]
      omega
    rw [this]
    omega
theorem natText {l : List Int} (h : Ok 4294967296 l) (hl : l.length ≤ 35184372088832) : Ev (fun k => nat_limbs_text.f k l) (nat (W 4294967296 l)) := by
  unfold nat_limbs_text.f
  refine Ev.bind (natCutW h (by omega)) ?_
  have hle : (limbs (W 4294967296 l)).length ≤ 35184372088832 := Nat.le_trans (limbs_le (W_lt h)) hl
  refine Ev.pos (by omega) ?_
  have hok : Ok 4294967296 (limbs (W 4294967296 l)).reverse := fun x hx => limbs_ok _ x (by simpa using hx)
  have hv : val (strOfNums (be4 (limbs (W 4294967296 l)).reverse)) = W 4294967296 l := by
    unfold val
    rw [L_nums _ (be4_ok _ hok), valL_be4 _ (limbs_ok _), W_limbs]
  have := natTrim (strOfNums (be4 (limbs (W 4294967296 l)).reverse))
  rwa [hv] at this

/-! ### Small, Of -/
def small (n : Nat) : Int × Bool := if n < 18446744073709551616 then ((n : Int), true) else (0, false)
theorem small_lt {n : Nat} (h : n < 18446744073709551616) : small n = ((n : Int), true) := if_pos h
theorem small_ge {n : Nat} (h : ¬ n < 18446744073709551616) : small n = (0, false) := if_neg h
theorem natSmall (s : ByteArray) (hs : s.size ≤ 140737488351232) : Ev (fun k => nat_Small.f k s) (small (val s)) := by
  unfold nat_Small.f
  refine Ev.bind (natRead s hs) ?_
  generalize val s = n
  by_cases h : (limbs n).length ≤ 2
  · refine Ev.neg (by omega) ?_
    have hn : n < 18446744073709551616 := by
      have := lt_limbs n
      have h2 : 4294967296 ^ (limbs n).length ≤ 4294967296 ^ 2 := Nat.pow_le_pow_right (by decide) h
      omega
    refine Ev.some (natAt n 1 (by decide)) ?_
    refine Ev.some (natAt n 0 (by decide)) ?_
    rw [small_lt hn, u64, or_u64 _ _ 32 (by omega) (by omega) (by omega) (by omega) (by omega) (by omega)]
    have : ((n / 4294967296 ^ 1 % 4294967296 : Nat) : Int) * 4294967296 % 18446744073709551616 + ((n / 4294967296 ^ 0 % 4294967296 : Nat) : Int) = (n : Int) := by omega
    rw [this]
    exact Ev.now _
  · refine Ev.pos (by omega) ?_
    rw [small_ge (fun hn => h (limbs_le (by omega)))]
    exact Ev.now _
theorem refSmallRow (x0 : ByteArray) (h8 : x0.size ≤ 8) : Ev (fun k => abacistref01_Small.l0 k x0 0 0) ((val x0 : Int), true) := by
  suffices hh : ∀ (d i : Nat), i + d = x0.size → Ev (fun k => abacistref01_Small.l0 k x0 ((valL ((L x0).take i) : Nat) : Int) (i : Int)) ((val x0 : Int), true) from
    hh x0.size 0 (by omega)
  intro d
  induction d with
  | zero =>
    intro i hi
    refine Ev.step (fun k => by rw [abacistref01_Small.l0]) ?_
    refine Ev.neg (by omega) ?_
    rw [List.take_of_length_le (by rw [L_length]; omega)]
    exact Ev.now _
  | succ d ih =>
    intro i hi
    refine Ev.step (fun k => by rw [abacistref01_Small.l0]) ?_
    refine Ev.pos (by omega) ?_
    refine Ev.pos (by omega) ?_
    rw [bt_L, w64 (by omega) (by omega)]
    have hli : i < (L x0).length := by rw [L_length]; omega
    have hg : (L x0).getD i 0 = (L x0)[i] := by rw [List.getD_eq_getElem?_getD, List.getElem?_eq_getElem hli]; rfl
    have hb : (L x0)[i] < 256 := L_lt x0 _ (List.getElem_mem hli)
    have ht : (L x0).take (i + 1) = (L x0).take i ++ [(L x0)[i]] := List.take_succ_eq_append_getElem hli
    have hv : valL ((L x0).take i) < 256 ^ 7 := by
      have := valL_lt ((L x0).take i) (fun b hb => L_lt x0 b (List.mem_of_mem_take hb))
      have h2 : 256 ^ ((L x0).take i).length ≤ 256 ^ 7 := Nat.pow_le_pow_right (by decide) (by rw [List.length_take]; omega)
      omega
    rw [hg, u64, u64, or_u64 _ _ 8 (by omega) (by omega) (by omega) (by omega) (by omega) (by omega)]
    have := ih (i + 1) (by omega)
    rw [ht, valL_snoc] at this
    have e1 : ((valL ((L x0).take i) : Nat) : Int) * 256 % 18446744073709551616 + (((L x0)[i] : Nat) : Int) % 18446744073709551616 = ((valL ((L x0).take i) * 256 + (L x0)[i] : Nat) : Int) := by omega
    rw [e1]
    exact this
theorem refSmall (s : ByteArray) : Ev (fun k => abacistref01_Small.f k s) (small (val s)) := by
  unfold abacistref01_Small.f
  refine Ev.bind (refTrim s) ?_
  generalize val s = n
  by_cases h : n < 18446744073709551616
  · have h8 : (nat n).size ≤ 8 := nat_size_le (by omega)
    rw [small_lt h]
    refine Ev.neg (by omega) ?_
    have := refSmallRow (nat n) h8
    rwa [val_nat] at this
  · have h8 : ¬ (nat n).size ≤ 8 := by
      intro h8
      have := val_lt (nat n)
      rw [val_nat] at this
      have h2 : 256 ^ (nat n).size ≤ 256 ^ 8 := Nat.pow_le_pow_right (by decide) h8
      omega
    rw [small_ge h]
    refine Ev.pos (by omega) ?_
    exact Ev.now _
theorem natOf (n : Nat) (h : n < 18446744073709551616) : Ev (fun k => nat_Of.f k (n : Int)) (nat n) := by
  unfold nat_Of.f
  refine Ev.bind (a := nat n) ?_ (Ev.now _)
  have := natText (l := [((n : Int)) % 4294967296, ((n : Int) / 4294967296) % 4294967296]) (((Ok.nil _).cons (by omega) (by omega)).cons (by omega) (by omega)) (by simp)
  have hw : W 4294967296 [((n : Int)) % 4294967296, ((n : Int) / 4294967296) % 4294967296] = n := by
    simp only [W]; omega
  rwa [hw] at this
theorem refOf (n : Nat) (h : n < 18446744073709551616) : Ev (fun k => abacistref01_Of.f k (n : Int)) (nat n) := by
  unfold abacistref01_Of.f
  suffices hh : ∀ (d i : Nat) (s : ByteArray), i + d = 8 → s.size = i → val s = n % 256 ^ i → Ev (fun k => abacistref01_Of.l0 k ((n / 256 ^ i : Nat) : Int) s (i : Int)) (nat n) by
    have := hh 8 0 ⟨#[]⟩ rfl rfl (by rw [Nat.pow_zero, Nat.mod_one]; rfl)
    simpa using this
  intro d
  induction d with
  | zero =>
    intro i s hi hs hv
    refine Ev.step (fun k => by rw [abacistref01_Of.l0]) ?_
    refine Ev.neg (by omega) ?_
    have := refTrim s
    rw [hv, show i = 8 by omega, show n % 256 ^ 8 = n by omega] at this
    exact Ev.bind this (Ev.now _)
  | succ d ih =>
    intro i s hi hs hv
    refine Ev.step (fun k => by rw [abacistref01_Of.l0]) ?_
    refine Ev.pos (by omega) ?_
    have hle : n / 256 ^ i ≤ n := Nat.div_le_self _ _
    have hge : 0 ≤ ((n / 256 ^ i : Nat) : Int) := Int.natCast_nonneg _
    have hle' : ((n / 256 ^ i : Nat) : Int) ≤ (n : Int) := Int.ofNat_le.2 hle
    rw [and_u64 _ (by omega) (by omega), w64 (x := ((n / 256 ^ i : Nat) : Int) % 256) (by omega) (by omega), w64 (x := (i : Int) + 1) (by omega) (by omega)]
    refine Ev.some (a := strOfNums [((n / 256 ^ i : Nat) : Int) % 256 % 256]) rfl ?_
    have hL : L (strOfNums [((n / 256 ^ i : Nat) : Int) % 256 % 256]) = [n / 256 ^ i % 256] := by
      rw [L_nums _ (by intro x hx; simp only [List.mem_singleton] at hx; subst hx; omega)]
      simp only [List.map_cons, List.map_nil]
      congr 1
      omega
    have hsz : (strOfNums [((n / 256 ^ i : Nat) : Int) % 256 % 256]).size = 1 := by rw [← L_length, hL]; rfl
    refine Ev.pos (by omega) ?_
    have := ih (i + 1) (strOfNums [((n / 256 ^ i : Nat) : Int) % 256 % 256] ++ s) (by omega) (by rw [← L_length, L_append, List.length_append, hL, L_length, hs]; simp; omega) (by
      unfold val
      rw [L_append, hL, List.singleton_append, valL_cons, L_length, hs]
      have : valL (L s) = n % 256 ^ i := hv
      rw [this, Nat.pow_succ, Nat.mod_mul, Nat.mul_comm]
      omega)
    have e : ((n / 256 ^ i : Nat) : Int) / 256 = ((n / 256 ^ (i + 1) : Nat) : Int) := by
      rw [Nat.pow_succ, ← Nat.div_div_eq_div_mul]; omega
    rw [e]
    exact this
end Go.Proofs.YtcdcijhfjiahkaaDoorR.P
