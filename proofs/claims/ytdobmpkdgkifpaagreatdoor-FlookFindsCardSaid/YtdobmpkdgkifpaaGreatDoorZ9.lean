/- Part 9 of the proof: the machine, the tables and the pure laws that the last text joins. -/
import Derived.Test.YtdobmpkdgkifpaaGreatDoorZ8
import Derived.Test.YtdobmpkdgkifpaaGreatDoorZ4
/- Values held against each other: plain Lean; the program's and the reference's. -/
set_option linter.unusedVariables false
set_option linter.unusedSimpArgs false
namespace Go.Proofs.YtdobmpkdgkifpaaGreatDoor.D
open Go Go.Proofs.YtdobmpkdgkifpaaGreatDoor.K
open Go.Proofs.YtdobmpkdgkifpaaGreatDoor.P (nat val val_nat nat_zero nat_eq_nil nat_inj nat_one wS inC dv good dig dig_le decT decT_good decT_ne)
/-! ### numbers and texts in order -/
theorem icmp_cases (x y : Int) : (x < y ∧ icmp x y = -1) ∨ (x = y ∧ icmp x y = 0) ∨ (y < x ∧ icmp x y = 1) := by
  unfold icmp
  by_cases h1 : x < y
  · exact .inl ⟨h1, if_pos h1⟩
  · rw [if_neg h1]
    by_cases h2 : x = y
    · exact .inr (.inl ⟨h2, if_pos h2⟩)
    · exact .inr (.inr ⟨by omega, if_neg h2⟩)
theorem icmp_neg (x y : Int) : icmp y x = - icmp x y := by
  rcases icmp_cases x y with ⟨h, e⟩ | ⟨h, e⟩ | ⟨h, e⟩ <;> rcases icmp_cases y x with ⟨h', e'⟩ | ⟨h', e'⟩ | ⟨h', e'⟩ <;> omega
def bcmp : List UInt8 → List UInt8 → Int
  | [], [] => 0
  | [], _ :: _ => -1
  | _ :: _, [] => 1
  | a :: s, b :: t => cond (decide (a = b)) (bcmp s t) (icmp a.toNat b.toNat)
theorem bcmp_cons (a b : UInt8) (s t : List UInt8) : bcmp (a :: s) (b :: t) = cond (decide (a = b)) (bcmp s t) (icmp a.toNat b.toNat) := rfl
theorem u8_ne {a b : UInt8} (h : ¬ a = b) : a.toNat ≠ b.toNat := fun h' => h (UInt8.toNat_inj.1 h')
theorem bcmp_neg : ∀ s t : List UInt8, bcmp t s = - bcmp s t
  | [], [] => rfl
  | [], _ :: _ => rfl
  | _ :: _, [] => rfl
  | a :: s, b :: t => by
    unfold bcmp
    by_cases h : a = b
    · subst h; rw [decide_eq_true rfl, cond_true, cond_true]; exact bcmp_neg s t
    · rw [decide_eq_false h, decide_eq_false (fun h' => h h'.symm), cond_false, cond_false]; exact icmp_neg _ _
theorem bless : ∀ s t : List UInt8, Op.bytesLess s t = decide (bcmp s t < 0)
  | [], [] => rfl
  | [], _ :: _ => rfl
  | _ :: _, [] => rfl
  | a :: s, b :: t => by
    unfold Op.bytesLess bcmp
    by_cases h : a = b
    · subst h
      rw [decide_eq_true rfl, cond_true, bless s t]
      have : decide (a < a) = false := decide_eq_false (UInt8.lt_irrefl a)
      rw [this]; simp
    · rw [decide_eq_false h, cond_false]
      have hb : (a == b) = false := by simp [h]
      rw [hb, Bool.false_and, Bool.or_false]
      refine decide_eq_decide.2 ?_
      rw [UInt8.lt_iff_toNat_lt]
      have := u8_ne h
      rcases icmp_cases a.toNat b.toNat with ⟨h, e⟩ | ⟨h, e⟩ | ⟨h, e⟩ <;> omega
theorem bcmp_zero : ∀ s t : List UInt8, bcmp s t = 0 ↔ s = t
  | [], [] => by simp [bcmp]
  | [], _ :: _ => by simp [bcmp]
  | _ :: _, [] => by simp [bcmp]
  | a :: s, b :: t => by
    unfold bcmp
    by_cases h : a = b
    · subst h; rw [decide_eq_true rfl, cond_true, bcmp_zero s t]; simp
    · rw [decide_eq_false h, cond_false]
      have := u8_ne h
      rcases icmp_cases a.toNat b.toNat with ⟨h', e⟩ | ⟨h', e⟩ | ⟨h', e⟩ <;> simp [h] <;> omega
theorem bcmp_range : ∀ s t : List UInt8, bcmp s t = -1 ∨ bcmp s t = 0 ∨ bcmp s t = 1
  | [], [] => by simp [bcmp]
  | [], _ :: _ => by simp [bcmp]
  | _ :: _, [] => by simp [bcmp]
  | a :: s, b :: t => by
    unfold bcmp
    by_cases h : a = b
    · subst h; rw [decide_eq_true rfl, cond_true]; exact bcmp_range s t
    · rw [decide_eq_false h, cond_false]
      rcases icmp_cases a.toNat b.toNat with ⟨h', e⟩ | ⟨h', e⟩ | ⟨h', e⟩ <;> omega
theorem xcInt (a b : Int) : cmp_Compare_int a b = some (icmp a b) := by
  rw [cmp_Compare_int_eq, cmp_isNaN_int_eq, cmp_isNaN_int_eq, Option.bind_some, Option.bind_some]
  simp only [decide_true, Bool.not_true, cond_false]
  rcases icmp_cases a b with ⟨h, e⟩ | ⟨h, e⟩ | ⟨h, e⟩
  · rw [cT (decide_eq_true h), e]
  · rw [cF (decide_eq_false (by omega)), cF (decide_eq_false (by omega)), e]
  · rw [cF (decide_eq_false (by omega)), cT (decide_eq_true (by omega)), e]
theorem xcInt64 (a b : Int) : cmp_Compare_int64 a b = some (icmp a b) := by
  rw [cmp_Compare_int64_eq, cmp_isNaN_int64_eq, cmp_isNaN_int64_eq, Option.bind_some, Option.bind_some]
  simp only [decide_true, Bool.not_true, cond_false]
  rcases icmp_cases a b with ⟨h, e⟩ | ⟨h, e⟩ | ⟨h, e⟩
  · rw [cT (decide_eq_true h), e]
  · rw [cF (decide_eq_false (by omega)), cF (decide_eq_false (by omega)), e]
  · rw [cF (decide_eq_false (by omega)), cT (decide_eq_true (by omega)), e]
theorem xcStr (s t : List UInt8) : cmp_Compare_string s t = some (bcmp s t) := by
  rw [cmp_Compare_string_eq, cmp_isNaN_string_eq, cmp_isNaN_string_eq, Option.bind_some, Option.bind_some]
  simp only [decide_true, Bool.not_true, cond_false]
  rw [bless]
  have hz := bcmp_zero s t
  rcases bcmp_range s t with e | e | e
  · rw [cT (decide_eq_true (by omega)), e]
  · rw [cF (decide_eq_false (by omega)), cF (by rw [decide_eq_true (hz.1 e), Bool.or_true]; rfl), e]
  · have hne : ¬ s = t := fun h => by have := hz.2 h; omega
    rw [cF (decide_eq_false (by omega)), cT (by rw [decide_eq_false (show ¬ bcmp s t < 0 by omega), decide_eq_false hne]; rfl), e]
theorem xcOr (a b : Int) : cmp_Or_int [a, b] = some (cond (decide (a = 0)) b a) := by
  have e3 : cmp_Or_int_1 0 [a, b] 2 2 = some 0 := by rw [cmp_Or_int_1_eq]; rfl
  have e2 : cmp_Or_int_1 0 [a, b] 2 1 = some b := by
    rw [cmp_Or_int_1_eq]
    show cond (!decide (b = 0)) (some b) (cmp_Or_int_1 0 [a, b] 2 2) = _
    rw [e3]
    by_cases h : b = 0
    · rw [decide_eq_true h, h]; rfl
    · rw [decide_eq_false h]; rfl
  rw [cmp_Or_int_eq, cmp_Or_int_1_eq]
  show cond (!decide (a = 0)) (some a) (cmp_Or_int_1 0 [a, b] 2 1) = _
  rw [e2]
  cases decide (a = 0) <;> rfl
theorem ycOrder (a b : Int) : abacistref09_order a b = some (icmp a b) := by
  rw [abacistref09_order_eq]
  rcases icmp_cases a b with ⟨h, e⟩ | ⟨h, e⟩ | ⟨h, e⟩
  · rw [cT (decide_eq_true h), e]
  · rw [cF (decide_eq_false (by omega)), cF (decide_eq_false (by omega)), e]
  · rw [cF (decide_eq_false (by omega)), cT (decide_eq_true (by omega)), e]
theorem bcmp_nil_r (s : List UInt8) : bcmp s [] = icmp (s.length : Int) 0 := by
  cases s with
  | nil => rfl
  | cons a s => 
    show (1 : Int) = _
    rcases icmp_cases ((a :: s).length : Int) 0 with ⟨h, e⟩ | ⟨h, e⟩ | ⟨h, e⟩ <;> simp only [List.length_cons] at h e ⊢ <;> omega
theorem bcmp_nil_l (s : List UInt8) : bcmp [] s = icmp 0 (s.length : Int) := by
  rw [bcmp_neg, bcmp_nil_r, icmp_neg 0]; omega
theorem icmp_sub {x y k : Int} : icmp (x - k) (y - k) = icmp x y := by
  rcases icmp_cases x y with ⟨h, e⟩ | ⟨h, e⟩ | ⟨h, e⟩ <;> rcases icmp_cases (x - k) (y - k) with ⟨h', e'⟩ | ⟨h', e'⟩ | ⟨h', e'⟩ <;> omega
theorem ycBytes1 (s t : List UInt8) (hs : s.length ≤ 200) (ht : t.length ≤ 200) : ∀ (m i : Nat), i + m = s.length → i ≤ t.length → abacistref09_bytes_1 s t (i : Int) = some (bcmp (s.drop i) (t.drop i)) := by
  have stop : ∀ i : Nat, i ≤ s.length → i ≤ t.length → (i = s.length ∨ i = t.length) → abacistref09_bytes_2 s t (i : Int) false = some (bcmp (s.drop i) (t.drop i)) := by
    intro i h1 h2 h
    rw [abacistref09_bytes_2_eq, cond_false, ycOrder, Option.bind_some]
    rcases h with h | h
    · rw [show s.drop i = [] from List.drop_of_length_le (by omega), bcmp_nil_l, List.length_drop, ← icmp_sub (k := (i : Int))]
      congr 2 <;> omega
    · rw [show t.drop i = [] from List.drop_of_length_le (by omega), bcmp_nil_r, List.length_drop, ← icmp_sub (k := (i : Int))]
      congr 2 <;> omega
  intro m
  induction m with
  | zero =>
    intro i h h2
    rw [abacistref09_bytes_1_eq, cF (decide_eq_false (by omega))]
    exact stop i (by omega) h2 (.inl (by omega))
  | succ m ih =>
    intro i h h2
    have hi : i < s.length := by omega
    rw [abacistref09_bytes_1_eq, cT (decide_eq_true (by omega))]
    by_cases hj : i < t.length
    · rw [decide_eq_true (show (i : Int) < (t.length : Int) by omega), abacistref09_bytes_2_eq, cond_true, cT (ix hi), cT (ix hj), Int.toNat_natCast, cT (ix hi), cT (ix hj), wS (by omega), ih (i + 1) (by omega) (by omega), getD_drop hi, getD_drop hj]
      generalize s.getD i 0 = a
      generalize t.getD i 0 = b
      have la := a.toNat_lt
      have lb := b.toNat_lt
      rw [bcmp_cons]
      by_cases hab : a = b
      · subst hab
        rw [cF (by rw [decide_eq_true rfl]; rfl), decide_eq_true rfl]; rfl
      · have := u8_ne hab
        rw [cT (by rw [decide_eq_false (by omega)]; rfl), decide_eq_false hab, cond_false, wrap64 (by omega) (by omega), wrap64 (by omega) (by omega), ycOrder]; rfl
    · rw [decide_eq_false (show ¬ (i : Int) < (t.length : Int) by omega)]
      exact stop i (by omega) (by omega) (.inr (by omega))
theorem ycBytes (s t : List UInt8) (hs : s.length ≤ 200) (ht : t.length ≤ 200) : abacistref09_bytes s t = some (bcmp s t) := by
  rw [abacistref09_bytes_eq]
  exact ycBytes1 s t hs ht s.length 0 (Nat.zero_add _) (Nat.zero_le _)
/-! ### values -/
/-- A value that is no fault. -/
structure Cl (x : Vl) : Prop where
  t : x.1 = 2 ∨ x.2.2.1 = []
  b : x.1 = 3 ∨ x.2.2.2.1 = false
  l : x.2.2.1.length ≤ 200
  n : x.1 = 0 ∨ x.1 = 1 ∨ x.1 = 2 ∨ x.1 = 3
theorem cl_blank : Cl blank := ⟨.inr rfl, .inr rfl, by simp [blank], .inl rfl⟩
theorem cl_num (r : Rt) : Cl (vNum r) := ⟨.inr rfl, .inr rfl, by simp [vNum], .inr (.inl rfl)⟩
theorem cl_truth (b : Bool) : Cl (vTruth b) := ⟨.inr rfl, .inl rfl, by simp [vTruth], .inr (.inr (.inr rfl))⟩
theorem cl_text {s : List UInt8} (h : plainV s = true) : Cl (vText s) := by
  rw [vText, h, cond_true]
  refine ⟨.inl rfl, .inr rfl, ?_, .inr (.inr (.inl rfl))⟩
  unfold plainV at h
  simp only [Bool.and_eq_true, decide_eq_true_eq] at h
  exact h.2
theorem cl_of {v : Vl} (h : cFault v = 0) : Cl v := by
  rcases fault_kind h with k | k | ⟨k, hp, k2⟩ | k
  · rw [k]; exact cl_blank
  · rw [k]; exact cl_num _
  · rw [k]; exact cl_text hp
  · rw [k]; exact cl_truth _
theorem cl_like {v : Vl} (h : Cl v) (k : Int) : Cl (likeV v k) := by
  unfold likeV
  cases decide (v.1 = 0)
  · exact h
  · cases decide (k = 1)
    · cases decide (k = 2)
      · cases decide (k = 3)
        · exact h
        · exact cl_truth _
      · exact cl_text (s := []) (by rfl)
    · exact cl_num _
def bitI (b : Bool) : Int := cond b 1 0
def ordV (x y : Vl) : Int := cond (!decide (x.1 = y.1)) (icmp x.1 y.1) (cond (decide (x.1 = 1)) (cmpR x.2.1 y.2.1) (cond (decide (x.1 = 2)) (bcmp x.2.2.1 y.2.2.1) (icmp (bitI x.2.2.2.1) (bitI y.2.2.2.1))))
def cmpV (a b : Vl) : Int × Int := cond (!decide (cFault a = 0)) (0, cFault a) (cond (!decide (cFault b = 0)) (0, cFault b) (ordV (likeV a b.1) (likeV b a.1), 0))
theorem xcBit (b : Bool) : coerce_bit b = some (bitI b) := by rw [coerce_bit_eq]; cases b <;> rfl
theorem ycBit (b : Bool) : abacistref09_bit b = some (bitI b) := by rw [abacistref09_bit_eq]; cases b <;> rfl
theorem xVCmp (a b : Vl) (ha : a.2.2.1.length ≤ 9223372036854775807) (hb : b.2.2.1.length ≤ 9223372036854775807) : coerce_Cmp a b = some (cmpV a b) := by
  rw [coerce_Cmp_eq, coerce_Cmp_1_eq]
  show (coerce_cell_fault a).bind (fun v1 => cond (!decide (v1 = 0)) _ ((coerce_cell_fault b).bind _)) = _
  rw [xcFault a ha, Option.bind_some, xcFault b hb, Option.bind_some, cmpV]
  by_cases h1 : cFault a = 0
  · rw [cF (by rw [decide_eq_true h1]; rfl), cF (by rw [decide_eq_true h1]; rfl), coerce_Cmp_2_eq]
    by_cases h2 : cFault b = 0
    · rw [cF (by rw [decide_eq_true h2]; rfl), cF (by rw [decide_eq_true h2]; rfl), xLike, Option.bind_some, xLike, Option.bind_some]
      have hx := cl_like (cl_of h1) b.1
      have hy := cl_like (cl_of h2) a.1
      revert hx hy
      generalize likeV a b.1 = x
      generalize likeV b a.1 = y
      intro hx hy
      rw [xcInt, Option.bind_some, xRCmp, Option.bind_some, xcStr, Option.bind_some, xcBit, Option.bind_some, xcBit, Option.bind_some, xcInt64, Option.bind_some, xcOr, Option.bind_some, ordV]
      by_cases hk : x.1 = y.1
      · rw [decide_eq_true hk]
        simp only [Bool.not_true, cond_false]
        by_cases hn : x.1 = 1
        · rw [decide_eq_true hn]; rfl
        · rw [decide_eq_false hn]
          simp only [cond_false]
          by_cases ht : x.1 = 2
          · rw [decide_eq_true ht]
            have b1 : x.2.2.2.1 = false := hx.b.resolve_left (by omega)
            have b2 : y.2.2.2.1 = false := hy.b.resolve_left (by omega)
            rw [b1, b2]
            by_cases hz : bcmp x.2.2.1 y.2.2.1 = 0
            · rw [decide_eq_true hz, hz]; rfl
            · rw [decide_eq_false hz]; rfl
          · rw [decide_eq_false ht, hx.t.resolve_left ht, hy.t.resolve_left (by omega)]
            rfl
      · rw [decide_eq_false hk]; rfl
    · rw [cT (by rw [decide_eq_false h2]; rfl), cT (by rw [decide_eq_false h2]; rfl)]
  · rw [cT (by rw [decide_eq_false h1]; rfl), cT (by rw [decide_eq_false h1]; rfl), coerce_Cmp_2_eq, cT (by rw [decide_eq_false h1]; rfl)]
theorem yLike (a b : Vl) : abacistref09_like a b = some (likeV a b.1) := by
  rw [abacistref09_like_eq, yROf 0 (by omega) (by omega), Option.bind_some, yvNum, yvText, yvTruth, likeV]
  cases decide (a.1 = 0) <;> cases decide (b.1 = 1) <;> cases decide (b.1 = 2) <;> cases decide (b.1 = 3) <;> rfl
theorem yVCmp (a b : Vl) : abacistref09_Cmp a b = some (cmpV a b) := by
  rw [abacistref09_Cmp_eq, ycFault a, Option.bind_some, ycFault b, Option.bind_some, Option.bind_some, Option.bind_some, cmpV]
  by_cases h1 : cFault a = 0
  · rw [decide_eq_true h1]
    simp only [Bool.not_true, cond_false]
    by_cases h2 : cFault b = 0
    · rw [decide_eq_true h2]
      simp only [Bool.not_true, cond_false]
      rw [yLike, Option.bind_some, yLike, Option.bind_some]
      have hx := cl_like (cl_of h1) b.1
      have hy := cl_like (cl_of h2) a.1
      revert hx hy
      generalize likeV a b.1 = x
      generalize likeV b a.1 = y
      intro hx hy
      rw [ycOrder, Option.bind_some, yRCmp, Option.bind_some, ycBytes _ _ hx.l hy.l, Option.bind_some, ycBit, Option.bind_some, ycBit, Option.bind_some, ycOrder, Option.bind_some, ordV]
      cases decide (x.1 = y.1) <;> cases decide (x.1 = 1) <;> cases decide (x.1 = 2) <;> rfl
    · rw [decide_eq_false h2]; rfl
  · rw [decide_eq_false h1]; rfl
/-! ### the order -/
end Go.Proofs.YtdobmpkdgkifpaaGreatDoor.D

/- Rounding of fractions towards zero, and as small numbers: plain Lean; the program's and the reference's. -/
set_option linter.unusedVariables false
set_option linter.unusedSimpArgs false
namespace Go.Proofs.YtdobmpkdgkifpaaGreatDoor.D
open Go Go.Proofs.YtdobmpkdgkifpaaGreatDoor.K
open Go.Proofs.YtdobmpkdgkifpaaGreatDoor.P (nat val divmod small val_nat nat_zero nat_eq_nil nat_val_length nat_length_le len_mono val_lt nat_inj nat_one wS mod_u64 sgnv)
theorem mod_i64 (n : Int) : IntKind.i64.wrap n = (n + 9223372036854775808) % 18446744073709551616 - 9223372036854775808 := by
  simp [IntKind.wrap, IntKind.bits, IntKind.signed]
  omega
/-! ### towards zero -/
def truncR (r : Rt) : Rt := ((well r).1 && !decide (val (well r).2.1 / val (well r).2.2 = 0), nat (val (well r).2.1 / val (well r).2.2), [1])
theorem Fm.quo {s : Bool} {n d : Nat} (h : Fm s n d) : Fm (s && !decide (n / d = 0)) (n / d) 1 := by
  refine ⟨Nat.le_trans (len_mono (Nat.div_le_self n d)) h.nl, by rw [nat_one]; simp, by omega, Nat.gcd_one_right _, fun hq => by rw [hq]; simp⟩
theorem xRdWell (r : Rt) : round_well r = some (well r) := by
  rw [round_well_eq, xRight, Option.bind_some, xROf 0 (by omega) (by omega), Option.bind_some, well, show ofI 0 = (false, [], [1]) by unfold ofI; rw [Int.natAbs_zero, nat_zero]; rfl]
  cases right r <;> rfl
theorem divmod_pos {a b : Nat} (h : 0 < b) : divmod a b = (nat (a / b), nat (a % b), 0) := by unfold Go.Proofs.YtdobmpkdgkifpaaGreatDoor.P.divmod; rw [if_neg (by omega)]
theorem xTrunc (r : Rt) : round_Trunc r = some (truncR r) := by
  obtain ⟨s, n, d, e, f⟩ := well_form r
  have h1 := f.nl
  have h2 := f.dl
  have hq := f.quo
  have hql := hq.nl
  rw [round_Trunc_eq, xRdWell, Option.bind_some, truncR, e]
  simp only [val_nat]
  rw [xDiv _ _ (by omega) (by omega), Option.bind_some, val_nat, val_nat, divmod_pos f.pos]
  simp only [decide_true, Bool.not_true, cond_false]
  rw [xWMake _ _ (by omega), Option.bind_some, val_nat, round_made_eq, xWOf 1 (by omega) (by omega), Option.bind_some]
  have := make_form hq
  rw [nat_one] at this
  show ((rat_Make (s && !decide (n / d = 0), nat (n / d)) (false, nat 1)).bind _).bind _ = _
  rw [nat_one, xMake _ _ (by simp only; omega) (by simp), this]; rfl
/-! ### the reference's differences are told -/
/-! ### the reference's floors -/
/-! ### small numbers -/
def smallV (s : Bool) (n : Nat) : Int × Bool := cond s (cond (decide (n ≤ 9223372036854775808)) (-(n : Int), true) (0, false)) (cond (decide (n < 9223372036854775808)) ((n : Int), true) (0, false))
def smallR (r : Rt) : Int × Bool := cond (decide ((well r).2.2 = [1])) (smallV (well r).1 (val (well r).2.1)) (0, false)
theorem xSmallN (s : List UInt8) (h : s.length ≤ 1000000000) : nat_Small s = some (small (val s)) := by
  refine (top_call ..).trans ?_
  show Go.Proofs.YtdobmpkdgkifpaaGreatDoor.Q.smallQ s = _
  unfold Go.Proofs.YtdobmpkdgkifpaaGreatDoor.Q.smallQ
  rw [ok_le h, cond_true]
theorem xSmallW {s : Bool} {n d : Nat} (f : Fm s n d) : whole_Small (s, nat n) = some (smallV s n) := by
  have h1 := f.nl
  have e2 : ∀ a, whole_Small_2 a true = some (0, false) := fun a => by rw [whole_Small_2_eq, cond_true]
  have e2' : ∀ a, whole_Small_2 a false = some (IntKind.i64.wrap a, true) := fun a => by rw [whole_Small_2_eq, cond_false]
  rw [whole_Small_eq, xWWell _ (by simp only; omega), Option.bind_some]
  simp only [val_nat, mkW_form f]
  rw [xSmallN _ (by omega), Option.bind_some, val_nat]
  unfold Go.Proofs.YtdobmpkdgkifpaaGreatDoor.P.small
  by_cases h64 : n < 18446744073709551616
  · rw [if_pos h64]
    have hr : ∀ x : Int, -9223372036854775808 ≤ IntKind.i64.wrap x ∧ IntKind.i64.wrap x ≤ 9223372036854775807 := fun x => by rw [mod_i64]; omega
    have s1 : ∀ (a : Int), whole_Small_1 a true (s, nat n) = cond ((decide (IntKind.i64.wrap a < 0) == s) && decide ((IntKind.i64.wrap a).natAbs = n)) (some (IntKind.i64.wrap a, true)) (some (0, false)) := fun a => by
      rw [whole_Small_1_eq, Bool.not_true, cond_false, xWOf _ (hr a).1 (hr a).2, Option.bind_some]
      simp only [nat_inj]
      cases (decide (IntKind.i64.wrap a < 0) == s) && decide ((IntKind.i64.wrap a).natAbs = n)
      · exact e2 a
      · exact e2' a
    cases s with
    | false =>
      rw [cond_false, s1, smallV, cond_false]
      by_cases h : n < 9223372036854775808
      · have hw : IntKind.i64.wrap (n : Int) = (n : Int) := by rw [mod_i64]; omega
        rw [hw, decide_eq_false (by omega), decide_eq_true (by omega), decide_eq_true h]; rfl
      · rw [decide_eq_true (show IntKind.i64.wrap (n : Int) < 0 by rw [mod_i64]; omega), decide_eq_false h]; rfl
    | true =>
      have hn : ¬ n = 0 := fun h => by have := f.z h; cases this
      have hu : IntKind.u64.wrap (0 - (n : Int)) = 18446744073709551616 - (n : Int) := by rw [mod_u64]; omega
      rw [cond_true, s1, smallV, cond_true, hu]
      by_cases h : n ≤ 9223372036854775808
      · have hw : IntKind.i64.wrap (18446744073709551616 - (n : Int)) = -(n : Int) := by rw [mod_i64]; omega
        rw [hw, decide_eq_true (by omega), decide_eq_true (by omega), decide_eq_true h]; rfl
      · rw [decide_eq_false (show ¬ IntKind.i64.wrap (18446744073709551616 - (n : Int)) < 0 by rw [mod_i64]; omega), decide_eq_false h]; rfl
  · rw [if_neg h64, smallV, decide_eq_false (by omega), decide_eq_false (by omega)]
    cases s <;> (simp only [whole_Small_1_eq, Bool.not_false, cond_true, cond_false, e2])
theorem xSmallR (r : Rt) : round_Small r = some (smallR r) := by
  obtain ⟨s, n, d, e, f⟩ := well_form r
  rw [round_Small_eq, round_Whole_eq, xRdWell, Option.bind_some, Option.bind_some, smallR, e]
  cases decide (nat d = [1])
  · rfl
  · rw [Bool.not_true, cond_false, Option.bind_some, round_top_eq, Option.bind_some, xSmallW f, val_nat]; rfl
end Go.Proofs.YtdobmpkdgkifpaaGreatDoor.D

/- FlogNames: the names are alike; plain Lean over the equations. -/
set_option linter.unusedVariables false
namespace Go.Proofs.YtdobmpkdgkifpaaGreatDoor.D
open Go Go.Proofs.YtdobmpkdgkifpaaGreatDoor.K
end Go.Proofs.YtdobmpkdgkifpaaGreatDoor.D
namespace Go.Proofs.YtdobmpkdgkifpaaGreatDoor.K
open Go
end Go.Proofs.YtdobmpkdgkifpaaGreatDoor.K

/- FlogRules: plain Lean over the equations. -/
set_option linter.unusedVariables false
set_option linter.unusedSimpArgs false
namespace Go.Proofs.YtdobmpkdgkifpaaGreatDoor.D
open Go Go.Proofs.YtdobmpkdgkifpaaGreatDoor.K
abbrev Ar := List Vl × Int × Bool × Int × Int
def one1 (v : Vl) : Ar := ([v], 1, false, 0, 0)
end Go.Proofs.YtdobmpkdgkifpaaGreatDoor.D
namespace Go.Proofs.YtdobmpkdgkifpaaGreatDoor.K
open Go
end Go.Proofs.YtdobmpkdgkifpaaGreatDoor.K

/- Functions of truths: arguments, and what is joined; plain Lean; the program's and the reference's. -/
set_option linter.unusedVariables false
set_option linter.unusedSimpArgs false
namespace Go.Proofs.YtdobmpkdgkifpaaGreatDoor.D
open Go Go.Proofs.YtdobmpkdgkifpaaGreatDoor.K
open Go.Proofs.YtdobmpkdgkifpaaGreatDoor.P (wS wraps_i64)
def AZ : Ar := ([], 0, false, 0, 0)
def BL : Vl := (0, (false, [], []), [], false, 0)
theorem dropG {α : Type} (d : α) {l : List α} {i : Nat} (h : i < l.length) : l.drop i = l.getD i d :: l.drop (i + 1) := by
  rw [List.drop_eq_getElem_cons h, List.getD_eq_getElem?_getD, List.getElem?_eq_getElem h]; rfl
theorem getD_mem {α : Type} (d : α) {l : List α} {i : Nat} (h : i < l.length) : l.getD i d ∈ l := by
  rw [List.getD_eq_getElem?_getD, List.getElem?_eq_getElem h]; exact List.getElem_mem h
/-! ### few and short -/
def vl (v : Vl) : Bool := decide (v.2.2.1.length ≤ 1000) && (decide (v.2.1.2.1.length ≤ 100) && decide (v.2.1.2.2.length ≤ 100))
def la (a : Ar) : Bool := decide (a.1.length ≤ 210) && a.1.all vl
/-! ### which arguments can be -/
def okA (a : Ar) : Bool := decide (1 ≤ a.2.1) && (decide (1 ≤ a.1.length) && (decide (a.1.length ≤ 200) && (decide ((a.1.length : Int).tmod a.2.1 = 0) && ((a.2.2.1 || decide (a.1.length ≤ 1)) && a.1.all vRight))))
def short (a : Ar) : Prop := ∀ v ∈ a.1, v.2.2.1.length ≤ 9223372036854775807
theorem yMay2 (a : Ar) (hl : a.1.length ≤ 200) : ∀ (m i : Nat), i + m = a.1.length → abacistref19_May_2 (a.1.length : Int) (i : Int) a = some ((a.1.drop i).all vRight)
  | 0, i, h => by rw [abacistref19_May_2_eq, cF (decide_eq_false (by omega)), List.drop_of_length_le (by omega)]; rfl
  | m + 1, i, h => by
    have hi : i < a.1.length := by omega
    rw [abacistref19_May_2_eq, cT (decide_eq_true (by omega)), cT (ix hi), Int.toNat_natCast, show a.1.getD i (0, (false, [], []), [], false, 0) = a.1.getD i BL from rfl, yvRight, Option.bind_some, wS (by omega), yMay2 a hl m (i + 1) (by omega), dropG BL hi, List.all_cons]
    cases vRight (a.1.getD i BL) <;> rfl
theorem yMayA (a : Ar) (hw : a.1.length ≤ 9223372036854775807) : abacistref19_May a = some (okA a) := by
  have bad : abacistref19_May_1 (a.1.length : Int) true a = some false := by rw [abacistref19_May_1_eq, cond_true]
  rw [abacistref19_May_eq, okA, bad]
  by_cases h1 : 1 ≤ a.2.1
  · rw [cF (decide_eq_false (by omega)), decide_eq_true h1]
    by_cases hc : a.2.1 > 200
    · rw [cT (decide_eq_true hc)]
      by_cases h2 : 1 ≤ a.1.length
      · by_cases h3 : a.1.length ≤ 200
        · have : (a.1.length : Int).tmod a.2.1 = (a.1.length : Int) := Int.tmod_eq_of_lt (by omega) (by omega)
          rw [this, decide_eq_false (show ¬ (a.1.length : Int) = 0 by omega)]
          simp
        · rw [decide_eq_false h3]; simp
      · rw [decide_eq_false h2]; rfl
    rw [cF (decide_eq_false hc)]
    by_cases h2 : 1 ≤ a.1.length
    · rw [cF (decide_eq_false (by omega)), decide_eq_true h2]
      by_cases h3 : a.1.length ≤ 200
      · have good : abacistref19_May_1 (a.1.length : Int) false a = some (a.1.all vRight) := by
          rw [abacistref19_May_1_eq, cond_false]
          exact yMay2 a h3 a.1.length 0 (Nat.zero_add _)
        rw [cF (decide_eq_false (by omega)), decide_eq_true h3, cT (by rw [decide_eq_false (by omega)]; rfl)]
        by_cases h4 : (a.1.length : Int).tmod a.2.1 = 0
        · rw [cF (by rw [decide_eq_true h4]; rfl), decide_eq_true h4]
          cases a.2.2.1
          · by_cases h5 : a.1.length ≤ 1
            · rw [decide_eq_true (show (a.1.length : Int) = 1 by omega), Bool.not_true, good, decide_eq_true h5]; rfl
            · rw [decide_eq_false (show ¬ (a.1.length : Int) = 1 by omega), Bool.not_false, bad, decide_eq_false h5]; rfl
          · rw [good]; rfl
        · rw [cT (by rw [decide_eq_false h4]; rfl), decide_eq_false h4]; rfl
      · rw [cT (decide_eq_true (by omega)), decide_eq_false h3]; rfl
    · rw [cT (decide_eq_true (by omega)), decide_eq_false h2]; rfl
  · rw [cT (decide_eq_true (by omega)), decide_eq_false h1]; rfl
/-! ### one value of each -/
def oneV (a : Ar) : Vl := cond (decide (a.1.length ≤ 1)) (a.1.getD 0 BL) (vFault 2)
theorem okA_parts {a : Ar} (h : okA a = true) : 1 ≤ a.1.length ∧ a.1.length ≤ 200 ∧ (a.2.2.1 = false → a.1.length = 1) ∧ ∀ v ∈ a.1, vRight v = true := by
  unfold okA at h
  simp only [Bool.and_eq_true, decide_eq_true_eq, Bool.or_eq_true, List.all_eq_true] at h
  obtain ⟨_, h2, h3, _, h5, h6⟩ := h
  refine ⟨h2, h3, fun hf => ?_, h6⟩
  rw [hf] at h5
  rcases h5 with h5 | h5
  · cases h5
  · omega
end Go.Proofs.YtdobmpkdgkifpaaGreatDoor.D

/- FlookNames: the names are alike; plain Lean over the equations. -/
set_option linter.unusedVariables false
namespace Go.Proofs.YtdobmpkdgkifpaaGreatDoor.D
open Go Go.Proofs.YtdobmpkdgkifpaaGreatDoor.K
theorem known22 : abacistlaw22_known = some true := of_depth 400 (by kernel_rfl)
end Go.Proofs.YtdobmpkdgkifpaaGreatDoor.D
namespace Go.Proofs.YtdobmpkdgkifpaaGreatDoor.K
open Go
end Go.Proofs.YtdobmpkdgkifpaaGreatDoor.K

/- FlookFinds: what stands at the place that MATCH tells; plain Lean over the equations. -/
set_option linter.unusedVariables false
set_option linter.unusedSimpArgs false
namespace Go.Proofs.YtdobmpkdgkifpaaGreatDoor.D
open Go Go.Proofs.YtdobmpkdgkifpaaGreatDoor.K
open Go.Proofs.YtdobmpkdgkifpaaGreatDoor.P (nat val val_nat nat_zero nat_eq_nil nat_inj nat_one wS)
theorem w64 {x : Int} (h0 : -9223372036854775808 ≤ x) (h1 : x ≤ 9223372036854775807) : IntKind.i64.wrap x = x := wrap64 h0 h1
/-! ### which arguments can be -/
theorem xOddK4 (a : List Vl) (hs : ∀ v ∈ a, v.2.2.1.length ≤ 9223372036854775807) (hl : a.length ≤ 200) : ∀ (m i : Nat), i + m = a.length → flook_odd_4 a (a.length : Int) (i : Int) = some (!(a.drop i).all vRight)
  | 0, i, h => by rw [flook_odd_4_eq, cF (decide_eq_false (by omega)), List.drop_of_length_le (by omega)]; rfl
  | m + 1, i, h => by
    have hi : i < a.length := by omega
    rw [flook_odd_4_eq, cT (decide_eq_true (by omega)), cT (ix hi), Int.toNat_natCast, show a.getD i (0, (false, [], []), [], false, 0) = a.getD i BL from rfl, flook_odd_5_eq, xvRight _ (hs _ (getD_mem BL hi)), Option.bind_some, wS (by omega), xOddK4 a hs hl m (i + 1) (by omega), dropG BL hi, List.all_cons]
    cases vRight (a.getD i BL)
    · rw [Bool.not_false, cond_true, decide_eq_true (by omega)]; rfl
    · rfl
theorem xOddK (a : Ar) (hs : short a) (hw : a.1.length ≤ 9223372036854775807) : flook_odd a = some (!okA a) := by
  have bad : flook_odd_1 true a = some true := by rw [flook_odd_1_eq, cond_true]
  rw [flook_odd_eq, okA, bad]
  by_cases h1 : 1 ≤ a.2.1
  · rw [cF (decide_eq_false (by omega)), decide_eq_true h1]
    by_cases h2 : 1 ≤ a.1.length
    · rw [cF (decide_eq_false (by omega)), decide_eq_true h2]
      by_cases h3 : a.1.length ≤ 200
      · have good : flook_odd_1 false a = some (!a.1.all vRight) := by
          rw [flook_odd_1_eq, cond_false, flook_odd_2_eq, flook_odd_3_eq]
          exact xOddK4 a.1 hs h3 a.1.length 0 (Nat.zero_add _)
        rw [cF (decide_eq_false (by omega)), decide_eq_true h3, cT (by rw [decide_eq_false (by omega)]; rfl)]
        by_cases h4 : (a.1.length : Int).tmod a.2.1 = 0
        · rw [cF (by rw [decide_eq_true h4]; rfl), decide_eq_true h4]
          cases a.2.2.1
          · by_cases h5 : a.1.length ≤ 1
            · rw [decide_eq_false (show ¬ (a.1.length : Int) > 1 by omega), good, decide_eq_true h5]; rfl
            · rw [decide_eq_true (show (a.1.length : Int) > 1 by omega), bad, decide_eq_false h5]; rfl
          · rw [good]; rfl
        · rw [cT (by rw [decide_eq_false h4]; rfl), decide_eq_false h4]; rfl
      · rw [cT (decide_eq_true (by omega)), decide_eq_false h3]; rfl
    · rw [cT (decide_eq_true (by omega)), decide_eq_false h2]; rfl
  · rw [cT (decide_eq_true (by omega)), decide_eq_false h1]; rfl
theorem ok_one1 {v : Vl} (h : vRight v = true) : okA (one1 v) = true := by
  unfold okA one1
  simp [h]
/-! ### small numbers -/
theorem well_ofI {n : Int} (h0 : -9223372036854775808 ≤ n) (h1 : n ≤ 9223372036854775807) : well (ofI n) = ofI n := by rw [ofI_form]; exact (Fm.of h0 h1).well
theorem rnum (r : Rt) : vRight (vNum r) = true := by
  unfold vRight vNum
  simp [well_well]
theorem numV_num (r : Rt) : numV (vNum r) = (well r, 0) := by
  have hc : cFault (vNum r) = 0 := by unfold cFault; rw [rnum]; rfl
  unfold numV
  rw [hc]; rfl
theorem ofI_nat (n : Nat) : ofI (n : Int) = (false, nat n, [1]) := by
  unfold ofI
  rw [decide_eq_false (by omega), Int.natAbs_natCast]
theorem val_one : val [1] = 1 := by rw [← nat_one, val_nat]
theorem trunc_nat {n : Nat} (h : n ≤ 1000000) : truncR (ofI (n : Int)) = ofI (n : Int) := by
  unfold truncR
  rw [well_ofI (by omega) (by omega), ofI_nat]
  simp only [Bool.false_and, val_nat, val_one, Nat.div_one]
theorem small_nat {n : Nat} (h : n ≤ 1000000) : smallR (ofI (n : Int)) = ((n : Int), true) := by
  unfold smallR
  rw [well_ofI (by omega) (by omega), ofI_nat]
  simp only [val_nat, smallV, cond_false, decide_true, cond_true]
  rw [decide_eq_true (by omega)]; rfl
theorem kSingle (v : Vl) : flook_single (one1 v) = some v := by rw [flook_single_eq]; rfl
theorem kCount {n : Nat} (h : n ≤ 1000000) : flook_count (one1 (vNum (ofI (n : Int)))) = some ((n : Int), 0) := by
  have hl : (vNum (ofI (n : Int))).2.2.1.length ≤ 9223372036854775807 := by simp [vNum]
  have c1 : flook_count_1 (n : Int) false = some ((n : Int), 0) := by rw [flook_count_1_eq, cond_false]
  rw [flook_count_eq, kSingle, Option.bind_some, xcNum _ hl, Option.bind_some, numV_num, well_ofI (by omega) (by omega)]
  simp only [decide_true, Bool.not_true, cond_false]
  rw [xTrunc, Option.bind_some, trunc_nat h, xSmallR, Option.bind_some, small_nat h]
  simp only [Bool.not_true, cond_false]
  rw [cF (decide_eq_false (by omega)), decide_eq_false (by omega), c1]
theorem kNum {n : Int} (h0 : -9223372036854775808 ≤ n) (h1 : n ≤ 9223372036854775807) : flook_num n = some (vNum (ofI n)) := by
  rw [flook_num_eq, xROf n h0 h1, Option.bind_some, xvNum]; rfl
theorem kLNum {n : Int} (h0 : -9223372036854775808 ≤ n) (h1 : n ≤ 9223372036854775807) : abacistlaw22_num n = some (vNum (ofI n)) := by
  rw [abacistlaw22_num_eq, yROf n h0 h1, Option.bind_some, yvNum]; rfl
theorem kLSingle (v : Vl) : abacistlaw22_single v = some (one1 v) := abacistlaw22_single_eq v
theorem counts1 {a : Ar} {n : Int} (h : flook_count a = some (n, 0)) : flook_counts [a] = some ([n], 0) := by
  have e2 : flook_counts_1 [a] 1 1 [n] = some ([n], 0) := by rw [flook_counts_1_eq]; rfl
  rw [flook_counts_eq, flook_counts_1_eq]
  show (flook_count a).bind _ = _
  rw [h, Option.bind_some]
  exact e2
theorem counts2 {a b : Ar} {n m : Int} (h : flook_count a = some (n, 0)) (h' : flook_count b = some (m, 0)) : flook_counts [a, b] = some ([n, m], 0) := by
  have e3 : flook_counts_1 [a, b] 2 2 [n, m] = some ([n, m], 0) := by rw [flook_counts_1_eq]; rfl
  have e2 : flook_counts_1 [a, b] 2 1 [n] = some ([n, m], 0) := by
    rw [flook_counts_1_eq]
    show (flook_count b).bind _ = _
    rw [h', Option.bind_some]
    exact e3
  rw [flook_counts_eq, flook_counts_1_eq]
  show (flook_count a).bind _ = _
  rw [h, Option.bind_some]
  exact e2
/-! ### the functions' door -/
def nROWS : List UInt8 := [82, 79, 87, 83]
def nCOLUMNS : List UInt8 := [67, 79, 76, 85, 77, 78, 83]
def nMATCH : List UInt8 := [77, 65, 84, 67, 72]
def nINDEX : List UInt8 := [73, 78, 68, 69, 88]
theorem limROWS : flook_limits nROWS = some (1, 1, true) := of_depth 60 (by kernel_rfl)
theorem limCOLUMNS : flook_limits nCOLUMNS = some (1, 1, true) := of_depth 60 (by kernel_rfl)
theorem limMATCH : flook_limits nMATCH = some (2, 3, true) := of_depth 60 (by kernel_rfl)
theorem limINDEX : flook_limits nINDEX = some (2, 3, true) := of_depth 60 (by kernel_rfl)
theorem do4 (name : List UInt8) (l l2 : List Ar) (at_ : Int × Int × Int) (hl : l.length ≤ 25) (ho : ∀ a ∈ l, flook_odd a = some false) : ∀ (m k : Nat), k + m = l.length → flook_Do_4 l (l.length : Int) (k : Int) at_ BL name l2 false = flook_Do_1 name l2 false at_ BL
  | 0, k, h => by rw [flook_Do_4_eq, cF (decide_eq_false (by omega)), cond_false]; rfl
  | m + 1, k, h => by
    have hk : k < l.length := by omega
    rw [flook_Do_4_eq, cT (decide_eq_true (by omega)), cT (ix hk), Int.toNat_natCast, show l.getD k ([], 0, false, 0, 0) = l.getD k AZ from rfl, ho _ (getD_mem AZ hk), Option.bind_some, cond_false, wS (by omega)]
    exact do4 name l l2 at_ hl ho m (k + 1) (by omega)
theorem do2 (name : List UInt8) (l : List Ar) (at_ : Int × Int × Int) (hl : l.length ≤ 25) (ho : ∀ a ∈ l, flook_odd a = some false) : flook_Do_2 l at_ BL name l false = flook_Do_1 name l false at_ BL := by
  rw [flook_Do_2_eq, flook_Do_3_eq]
  exact do4 name l l at_ hl ho l.length 0 (Nat.zero_add _)
theorem doROWS (a : Ar) (at_ : Int × Int × Int) (ho : flook_odd a = some false) : flook_Do nROWS at_ [a] = (flook_rows a).bind flook_num := by
  rw [flook_Do_eq, limROWS, Option.bind_some]
  show flook_Do_2 [a] at_ BL nROWS [a] false = _
  rw [do2 nROWS [a] at_ (by simp) (by simpa using ho), flook_Do_1_eq, cond_false]
  show (flook_rows a).bind (fun v8 => (flook_num v8).bind fun v9 => some v9) = _
  congr 1; funext v; cases flook_num v <;> rfl
theorem doCOLS (a : Ar) (at_ : Int × Int × Int) (ho : flook_odd a = some false) : flook_Do nCOLUMNS at_ [a] = flook_num a.2.1 := by
  rw [flook_Do_eq, limCOLUMNS, Option.bind_some]
  show flook_Do_2 [a] at_ BL nCOLUMNS [a] false = _
  rw [do2 nCOLUMNS [a] at_ (by simp) (by simpa using ho), flook_Do_1_eq, cond_false]
  show (flook_num a.2.1).bind (fun v9 => some v9) = _
  cases flook_num a.2.1 <;> rfl
theorem doMATCH (x a z : Ar) (at_ : Int × Int × Int) (h1 : flook_odd x = some false) (h2 : flook_odd a = some false) (h3 : flook_odd z = some false) : flook_Do nMATCH at_ [x, a, z] = flook_match x a [z] := by
  rw [flook_Do_eq, limMATCH, Option.bind_some]
  show flook_Do_2 [x, a, z] at_ BL nMATCH [x, a, z] false = _
  rw [do2 nMATCH [x, a, z] at_ (by simp) (by intro b hb; simp at hb; rcases hb with rfl | rfl | rfl <;> assumption), flook_Do_1_eq, cond_false]
  show (flook_match x a [z]).bind (fun v9 => some v9) = _
  cases flook_match x a [z] <;> rfl
theorem doINDEX (x a z : Ar) (at_ : Int × Int × Int) (h1 : flook_odd x = some false) (h2 : flook_odd a = some false) (h3 : flook_odd z = some false) : flook_Do nINDEX at_ [x, a, z] = flook_index x [a, z] := by
  rw [flook_Do_eq, limINDEX, Option.bind_some]
  show flook_Do_2 [x, a, z] at_ BL nINDEX [x, a, z] false = _
  rw [do2 nINDEX [x, a, z] at_ (by simp) (by intro b hb; simp at hb; rcases hb with rfl | rfl | rfl <;> assumption), flook_Do_1_eq, cond_false]
  show (flook_index x [a, z]).bind (fun v9 => some v9) = _
  cases flook_index x [a, z] <;> rfl
/-! ### rows times columns -/
theorem kRows (a : Ar) (h : okA a = true) : ∃ p q : Nat, a.2.1 = (q : Int) ∧ p * q = a.1.length ∧ q ≤ 200 ∧ p ≤ 200 ∧ flook_rows a = some (p : Int) := by
  have hp := okA_parts h
  unfold okA at h
  simp only [Bool.and_eq_true, decide_eq_true_eq] at h
  obtain ⟨h1, h2, h3, h4, _⟩ := h
  obtain ⟨q, hq⟩ : ∃ q : Nat, a.2.1 = (q : Int) := ⟨a.2.1.toNat, by omega⟩
  rw [hq] at h1 h4
  have hq1 : 1 ≤ q := by omega
  have hmod : a.1.length % q = 0 := by
    have : ((a.1.length % q : Nat) : Int) = 0 := by rw [← h4]; rfl
    omega
  have hdiv := Nat.div_add_mod a.1.length q
  rw [hmod, Nat.add_zero] at hdiv
  have hle : a.1.length / q ≤ a.1.length := Nat.div_le_self _ _
  have hq2 : q ≤ a.1.length := Nat.le_of_dvd (by omega) (Nat.dvd_of_mod_eq_zero hmod)
  have hd : (a.1.length : Int).tdiv (q : Int) = ((a.1.length / q : Nat) : Int) := rfl
  refine ⟨a.1.length / q, q, hq, by rw [Nat.mul_comm]; exact hdiv, by omega, by omega, ?_⟩
  rw [flook_rows_eq, hq, cT (by rw [decide_eq_false (by omega)]; rfl), hd]
  generalize a.1.length / q = p at hle
  rw [w64 (by omega) (by omega)]
theorem yRMul {p q : Nat} (hp : p ≤ 200) (hq : q ≤ 200) : abacistref05_Mul (ofI (p : Int)) (ofI (q : Int)) = some (ofI ((p * q : Nat) : Int), 0) := by
  have hpq : p * q ≤ 40000 := Nat.le_trans (Nat.mul_le_mul hp hq) (by omega)
  have F : ∀ {n : Nat}, n ≤ 40000 → Fm false n 1 := fun {n} h => by
    have := Fm.of (n := (n : Int)) (by omega) (by omega)
    rw [decide_eq_false (by omega), Int.natAbs_natCast] at this
    exact this
  have W' : ∀ {n : Nat}, n ≤ 40000 → well (ofI (n : Int)) = (false, nat n, nat 1) := fun {n} h => by rw [well_ofI (by omega) (by omega), ofI_nat, nat_one]
  have l1 : ∀ {n : Nat}, n ≤ 40000 → (nat n).length ≤ 32 := fun h => (F h).nl
  have h1 := l1 (n := p) (by omega)
  have h2 := l1 (n := q) (by omega)
  have h3 := l1 (n := 1) (by omega)
  have h4 := l1 hpq
  rw [abacistref05_Mul_eq, yTop (W' (by omega)) (F (by omega)), Option.bind_some, yTop (W' (by omega)) (F (by omega)), Option.bind_some, yWMul _ _ (by simp only; omega) (by simp only; omega), Option.bind_some,
    yLow (W' (by omega)) (F (by omega)), Option.bind_some, yLow (W' (by omega)) (F (by omega)), Option.bind_some, yWMul _ _ (by simp only; omega) (by simp only; omega), Option.bind_some]
  simp only [mkW, val_nat, Bool.false_and, beq_self_eq_true, Bool.not_true, Nat.mul_one]
  rw [yMake _ _ (by simp only; omega) (by simp only; omega), make_form (F hpq), Option.bind_some, ofI_nat, nat_one]
/-! ### what is found -/
noncomputable def shV (x : Vl) : Vl := cond (decide (x.1 = 0)) (vNum (ofI 0)) x
theorem kShown (x : Vl) : flook_shown x = some (shV x) := by
  rw [flook_shown_eq, shV, kNum (by omega) (by omega)]
  cases decide (x.1 = 0) <;> rfl
theorem kFind1 (x : Vl) (l : List Vl) (hl : l.length ≤ 200) (hs : ∀ v ∈ l, v.2.2.1.length ≤ 9223372036854775807) (hx : x.2.2.1.length ≤ 9223372036854775807) : ∀ (m i : Nat), i + m = l.length →
    ∃ z : Int, flook_find_1 0 0 l (l.length : Int) (i : Int) x = some z ∧ (z = 0 ∨ ∃ j : Nat, j < l.length ∧ z = ((j + 1 : Nat) : Int) ∧ (l.getD j BL).1 = x.1 ∧ (cmpV (l.getD j BL) x).1 = 0)
  | 0, i, h => ⟨0, by rw [flook_find_1_eq, cF (decide_eq_false (by omega))], .inl rfl⟩
  | m + 1, i, h => by
    have hi : i < l.length := by omega
    obtain ⟨z, hz, hr⟩ := kFind1 x l hl hs hx m (i + 1) (by omega)
    have f2 : flook_find_2 0 0 l (l.length : Int) (i : Int) x = some z := by rw [flook_find_2_eq, wS (by omega)]; exact hz
    rw [flook_find_1_eq, cT (decide_eq_true (by omega)), cT (ix hi), Int.toNat_natCast, show l.getD i (0, (false, [], []), [], false, 0) = l.getD i BL from rfl]
    by_cases hk : (l.getD i BL).1 = x.1
    · rw [cF (by rw [decide_eq_true hk]; rfl), xVCmp _ _ (hs _ (getD_mem BL hi)) hx, Option.bind_some, cT (decide_eq_true rfl), flook_find_3_eq]
      by_cases hc : (cmpV (l.getD i BL) x).1 = 0
      · rw [cT (decide_eq_true hc), wS (by omega)]
        exact ⟨_, rfl, .inr ⟨i, hi, rfl, hk, hc⟩⟩
      · rw [cF (decide_eq_false hc), cT (decide_eq_true rfl), f2]
        exact ⟨z, rfl, hr⟩
    · rw [cT (by rw [decide_eq_false hk]; rfl), f2]
      exact ⟨z, rfl, hr⟩
theorem likeS {a : Vl} (h : ¬ a.1 = 0) (k : Int) : likeV a k = a := by unfold likeV; rw [decide_eq_false h]; rfl
theorem cF0 {v : Vl} (h : vRight v = true) (hk : ¬ v.1 = 4) : cFault v = 0 := by
  unfold cFault
  rw [h, cond_true]
  rcases right_kind h with k | k | k | k | k
  · rw [right0 h k]; rfl
  · rw [right1 h k]; rfl
  · have e := right2 h k
    cases hp : plainV v.2.2.1 with
    | true => rw [vText, hp, cond_true] at e; rw [e]
    | false =>
      rw [vText, hp, cond_false] at e
      have := congrArg (fun x : Vl => x.1) e
      simp only [vFault] at this
      omega
  · rw [right3 h k]; rfl
  · exact absurd k hk
theorem cmp_found {v x : Vl} (hv : vRight v = true) (hx : vRight x = true) (h4 : ¬ x.1 = 4) (hk : v.1 = (shV x).1) (hc : (cmpV v (shV x)).1 = 0) : cmpV v x = (0, 0) := by
  have hsx : vRight (shV x) = true := by
    unfold shV
    cases decide (x.1 = 0)
    · exact hx
    · exact rnum _
  have s4 : ¬ (shV x).1 = 4 ∧ ¬ (shV x).1 = 0 := by
    unfold shV
    by_cases h0 : x.1 = 0
    · rw [decide_eq_true h0]; simp [vNum]
    · rw [decide_eq_false h0]; exact ⟨h4, h0⟩
  have c1 := cF0 hv (by rw [hk]; exact s4.1)
  have c2 := cF0 hx h4
  have c3 := cF0 hsx s4.1
  have v0 : ¬ v.1 = 0 := by rw [hk]; exact s4.2
  unfold cmpV at hc ⊢
  rw [c1, c3] at hc
  rw [c1, c2]
  simp only [decide_true, Bool.not_true, cond_false] at hc ⊢
  rw [likeS v0 _, likeS s4.2 _] at hc
  rw [likeS v0 _]
  have : likeV x v.1 = shV x := by
    unfold shV
    by_cases h0 : x.1 = 0
    · have : v.1 = 1 := by rw [hk]; unfold shV; rw [decide_eq_true h0]; rfl
      rw [decide_eq_true h0, cond_true, this]
      unfold likeV
      rw [decide_eq_true h0]; rfl
    · rw [decide_eq_false h0, cond_false, likeS h0 _]
  rw [this, hc]
theorem kMatch (x : Vl) (l : List Vl) (hl : l.length ≤ 200) (hs : ∀ v ∈ l, v.2.2.1.length ≤ 9223372036854775807) (hx : x.2.2.1.length ≤ 9223372036854775807) (h4 : ¬ x.1 = 4) (a : Ar) (ha : a.1 = l) (hc : a.2.1 = 1) :
    flook_match (one1 x) a [one1 (vNum (ofI 0))] = some (vFault 6) ∨ ∃ j : Nat, j < l.length ∧ flook_match (one1 x) a [one1 (vNum (ofI 0))] = some (vNum (ofI ((j + 1 : Nat) : Int))) ∧ (l.getD j BL).1 = (shV x).1 ∧ (cmpV (l.getD j BL) (shV x)).1 = 0 := by
  have hx' : (shV x).2.2.1.length ≤ 9223372036854775807 := by
    unfold shV
    cases decide (x.1 = 0)
    · exact hx
    · simp [vNum]
  obtain ⟨z, hz, hr⟩ := kFind1 (shV x) l hl hs hx' l.length 0 (Nat.zero_add _)
  have fz : flook_find x l 0 = some z := by rw [flook_find_eq, kShown, Option.bind_some]; exact hz
  have m1 : flook_match_1 false [0] a BL x = cond (decide (z = 0)) (some (vFault 6)) (flook_num z) := by
    rw [flook_match_1_eq, cond_false]
    show (flook_find x a.1 0).bind _ = _
    rw [ha, fz, Option.bind_some, xvFault]
    cases decide (z = 0)
    · show (flook_num z).bind (fun v4 => some v4) = _
      cases flook_num z <;> rfl
    · rfl
  have e : flook_match (one1 x) a [one1 (vNum (ofI 0))] = cond (decide (z = 0)) (some (vFault 6)) (flook_num z) := by
    have cn : flook_count (one1 (vNum (ofI 0))) = some (0, 0) := kCount (n := 0) (by omega)
    have rw' : flook_rows a = some (l.length : Int) := by
      rw [flook_rows_eq, hc, ha, cT (show (!decide ((1 : Int) = 0)) = true from rfl), Int.tdiv_one, w64 (by omega) (by omega)]
    rw [flook_match_eq, kSingle, Option.bind_some, cF (decide_eq_false h4), counts1 cn, Option.bind_some]
    show (flook_rows a).bind _ = _
    rw [rw', Option.bind_some, hc]
    show cond _ (flook_match_1 false [0] a BL x) (flook_match_1 false [0] a BL x) = _
    rw [m1]
    cases decide ((l.length : Int) > 1) <;> rfl
  rw [e]
  rcases hr with h0 | ⟨j, hj, hz', hk, hcm⟩
  · left; rw [decide_eq_true h0]; rfl
  · right
    refine ⟨j, hj, ?_, hk, hcm⟩
    rw [decide_eq_false (by omega), cond_false, hz', kNum (by omega) (by omega)]
theorem kIndex (l : List Vl) (hl : l.length ≤ 200) (a : Ar) (ha : a.1 = l) (hc : a.2.1 = 1) {j : Nat} (hj : j < l.length) :
    flook_index a [one1 (vNum (ofI ((j + 1 : Nat) : Int))), one1 (vNum (ofI 1))] = some (shV (l.getD j BL)) := by
  have rw' : flook_rows a = some (l.length : Int) := by
    rw [flook_rows_eq, hc, ha, cT (show (!decide ((1 : Int) = 0)) = true from rfl), Int.tdiv_one, w64 (by omega) (by omega)]
  have c1 : flook_cell_1 ((j + 1 : Nat) : Int) 1 false a BL = some (shV (l.getD j BL)) := by
    have e1 : IntKind.i64.wrap (((j + 1 : Nat) : Int) - 1) = (j : Int) := by rw [w64 (by omega) (by omega)]; omega
    have e2 : IntKind.i64.wrap ((j : Int) * 1) = (j : Int) := by rw [Int.mul_one, w64 (by omega) (by omega)]
    have e3 : IntKind.i64.wrap ((j : Int) + 1) = ((j + 1 : Nat) : Int) := wS (by omega)
    rw [flook_cell_1_eq, cond_false, hc, e1, e2, e3, e1, ha, cT (ix hj), Int.toNat_natCast]
    show (flook_shown (l.getD j BL)).bind _ = _
    rw [kShown]; rfl
  have cell : flook_cell a ((j + 1 : Nat) : Int) 1 = some (shV (l.getD j BL)) := by
    rw [flook_cell_eq, cF (decide_eq_false (by omega)), rw', Option.bind_some, cF (decide_eq_false (by omega)), cF (decide_eq_false (by omega)), hc]
    exact c1
  have one : flook_count (one1 (vNum (ofI 1))) = some (1, 0) := kCount (n := 1) (by omega)
  rw [flook_index_eq, counts2 (kCount (n := j + 1) (by omega)) one, Option.bind_some]
  show (flook_cell a ((j + 1 : Nat) : Int) 1).bind _ = _
  rw [cell]; rfl
theorem finds22 (x : Vl) (l : List Vl) (cols : Int) (hx : x.2.2.1.length ≤ 9223372036854775807) (hs : ∀ v ∈ l, v.2.2.1.length ≤ 9223372036854775807) (hw : l.length ≤ 9223372036854775807) : abacistlaw22_FlookFinds x l cols = some true := by
  have out : abacistlaw22_FlookFinds_1 l cols true x (l, 1, true, 1, 1) = some true := by rw [abacistlaw22_FlookFinds_1_eq, cond_true, known22]; rfl
  rw [abacistlaw22_FlookFinds_eq, yMayA _ hw, Option.bind_some, out]
  cases hA : okA (l, 1, true, 1, 1) with
  | false => rfl
  | true =>
  rw [Bool.not_true, cond_false, yvRight, Option.bind_some]
  cases hX : vRight x with
  | false => exact out
  | true =>
  obtain ⟨hp1, hp2, _, hp4⟩ := okA_parts hA
  have hl : l.length ≤ 200 := hp2
  have oddA : flook_odd (l, 1, true, 1, 1) = some false := by rw [xOddK (l, 1, true, 1, 1) hs hw, hA]; rfl
  have odd1 : ∀ v : Vl, v.2.2.1.length ≤ 9223372036854775807 → vRight v = true → flook_odd (one1 v) = some false := fun v h1 h2 => by
    rw [xOddK (one1 v) (fun w hw => by simp [one1] at hw; rw [hw]; exact h1) (by simp [one1]), ok_one1 h2]; rfl
  have oddN : ∀ r : Rt, flook_odd (one1 (vNum r)) = some false := fun r => odd1 _ (by simp [vNum]) (rnum r)
  have two : abacistlaw22_FlookFinds_2 x (l, 1, true, 1, 1) (0, 1, 1) = some true := by
    have known : (abacistlaw22_known.bind fun v5 => some v5) = some true := by rw [known22]; rfl
    rw [abacistlaw22_FlookFinds_2_eq, kLSingle, Option.bind_some, kLNum (by omega) (by omega), Option.bind_some, kLSingle, Option.bind_some]
    show (flook_Do nMATCH (0, 1, 1) [one1 x, (l, 1, true, 1, 1), one1 (vNum (ofI 0))]).bind _ = _
    rw [doMATCH _ _ _ _ (odd1 x hx hX) oddA (oddN _)]
    by_cases h4 : x.1 = 4
    · rw [flook_match_eq, kSingle, Option.bind_some, cT (decide_eq_true h4), Option.bind_some, cT (by rw [decide_eq_false (by omega)]; rfl), cT (decide_eq_true h4), known]
    · rcases kMatch x l hl hs hx h4 (l, 1, true, 1, 1) rfl rfl with e | ⟨j, hj, e, hk, hc⟩
      · rw [e, Option.bind_some, cT (by rfl), cT (by rfl), known]
      · have hv := hp4 _ (getD_mem BL hj)
        have v0 : shV (l.getD j BL) = l.getD j BL := by
          have : ¬ (l.getD j BL).1 = 0 := by
            rw [hk]; unfold shV
            by_cases h0 : x.1 = 0
            · rw [decide_eq_true h0]; simp [vNum]
            · rw [decide_eq_false h0]; exact h0
          unfold shV
          rw [decide_eq_false this]; rfl
        rw [e, Option.bind_some, cF (by rfl), kLSingle, Option.bind_some, kLNum (by omega) (by omega), Option.bind_some, kLSingle, Option.bind_some]
        show (flook_Do nINDEX (0, 1, 1) [(l, 1, true, 1, 1), one1 (vNum (ofI ((j + 1 : Nat) : Int))), one1 (vNum (ofI 1))]).bind _ = _
        rw [doINDEX _ _ _ _ oddA (oddN _) (oddN _), kIndex l hl _ rfl rfl hj, Option.bind_some, v0, yVCmp, Option.bind_some, cmp_found hv hX h4 hk hc]
        show cond _ (cond _ (abacistlaw22_known.bind fun v5 => some v5) _) _ = _
        rw [known]; rfl
  show abacistlaw22_FlookFinds_1 l cols false x (l, 1, true, 1, 1) = _
  rw [abacistlaw22_FlookFinds_1_eq, cond_false, yMayA _ hw, Option.bind_some, two]
  cases hB : okA (l, cols, true, 1, 1) with
  | false => rfl
  | true =>
  have oddB : flook_odd (l, cols, true, 1, 1) = some false := by rw [xOddK (l, cols, true, 1, 1) hs hw, hB]; rfl
  obtain ⟨p, q, e1, e2, e3, e4, e5⟩ := kRows _ hB
  have e1 : cols = (q : Int) := e1
  have e2 : p * q = l.length := e2
  rw [cond_true]
  show (flook_Do nROWS (0, 1, 1) [(l, cols, true, 1, 1)]).bind (fun v3 => (flook_Do nCOLUMNS (0, 1, 1) [(l, cols, true, 1, 1)]).bind fun v4 => _) = _
  rw [doROWS _ _ oddB, doCOLS _ _ oddB, e5, Option.bind_some, kNum (by omega) (by omega), Option.bind_some]
  show (flook_num cols).bind _ = _
  rw [e1, kNum (by omega) (by omega), Option.bind_some]
  show (abacistref05_Mul (well (ofI (p : Int))) (well (ofI (q : Int)))).bind _ = _
  rw [well_ofI (by omega) (by omega), well_ofI (by omega) (by omega), yRMul e4 e3, Option.bind_some, yROf _ (by omega) (by omega), Option.bind_some, e2]
  simp
end Go.Proofs.YtdobmpkdgkifpaaGreatDoor.D
namespace Go.Proofs.YtdobmpkdgkifpaaGreatDoor.K
open Go
theorem FlookFinds (x : Int × (Bool × List UInt8 × List UInt8) × List UInt8 × Bool × Int) (hx : Wf (.pair (.int .i64) (.pair (.pair .bool (.pair .str .str)) (.pair .str (.pair .bool (.int .i64))))) x) (l : List (Int × (Bool × List UInt8 × List UInt8) × List UInt8 × Bool × Int)) (hl : Wf (.sl (.pair (.int .i64) (.pair (.pair .bool (.pair .str .str)) (.pair .str (.pair .bool (.int .i64)))))) l) (c : Int) (_ : Wf (.int .i64) c) : abacistlaw22_FlookFinds x l c = some true :=
  D.finds22 x l c hx.2.2.1 (fun v hv => (hl.2 v hv).2.2.1) hl.1
end Go.Proofs.YtdobmpkdgkifpaaGreatDoor.K
