/- What the printed functions of the package of naturals and of its reference answer, part 2: lengths, order, sums. -/
import Derived.Test.YtcdcijhfjiahkaaDoorRPnat
namespace Go.Proofs.YtcdcijhfjiahkaaDoorR.P
open Go.RowKit Go.Proofs.YtcdcijhfjiahkaaDoorRW.PrintWords Go.Proofs.YtcdcijhfjiahkaaDoorRW.PrintMore Go.Proofs.YtcdcijhfjiahkaaDoorR.M Go.Proofs.YtcdcijhfjiahkaaDoorR.X
set_option linter.unusedVariables false
set_option linter.unusedSimpArgs false

/-! ### the length in bits -/
def blen (n : Nat) : Nat := if h : n = 0 then 0 else blen (n / 2) + 1
termination_by n
decreasing_by omega
theorem blen_zero : blen 0 = 0 := by rw [blen]; simp
theorem blen_pos {n : Nat} (h : n ≠ 0) : blen n = blen (n / 2) + 1 := by rw [blen]; simp [h]
theorem bitLen_blen (n : Nat) : n < 2 ^ 64 → Lib.bitLen n = blen n := by
  induction n using Nat.strongRecOn with
  | _ n ih =>
    intro hn
    by_cases h : n = 0
    · subst h; rw [blen_zero]; exact Lib.bitLenAux_zero _
    · rw [Lib.bitLen_half n h hn, blen_pos h, ih (n / 2) (by omega) (by omega)]
      omega
theorem blen_shift (j n : Nat) (h : 2 ^ j ≤ n) : blen n = blen (n / 2 ^ j) + j := by
  induction j with
  | zero => simp
  | succ j ih =>
    rw [Nat.pow_succ] at h
    rw [ih (by omega), blen_pos (n := n / 2 ^ j) (by have := Nat.div_pos (a := n) (b := 2 ^ j) (by omega) (Nat.two_pow_pos j); omega), Nat.pow_succ, ← Nat.div_div_eq_div_mul]
    omega
theorem top_digit {B : Nat} (hB : 0 < B) {l : List Int} (h : Ok B l) (i : Nat) (hi : l.length = i + 1) : (l.getD i 0).toNat = W B l / B ^ i := by
  have h1 := W_take B l i
  rw [W_all B l (i + 1) (by omega)] at h1
  have h2 := W_lt (h.take i)
  rw [List.length_take, Nat.min_eq_left (by omega)] at h2
  rw [h1, Nat.add_mul_div_left _ _ (Nat.pow_pos hB), Nat.div_eq_of_lt h2]
  omega
theorem blen_le (n : Nat) (h : n < 2 ^ 32) : blen n ≤ 32 := by
  rw [← bitLen_blen n (by omega)]; exact Lib.bitLen_le n 32 (by decide) h
theorem natBits (s : ByteArray) (hs : s.size ≤ 140737488351232) : Ev (fun k => nat_Bits.f k s) ((blen (val s) : Nat) : Int) := by
  unfold nat_Bits.f
  refine Ev.bind (natRead s hs) ?_
  have hsz := limbs_val s
  generalize val s = n at hsz ⊢
  by_cases h0 : n = 0
  · subst h0
    refine Ev.pos (by simp [limbs_zero]) ?_
    rw [blen_zero]
    exact Ev.now _
  · have hl : (limbs n).length ≠ 0 := fun h => h0 (limbs_nil.1 h)
    obtain ⟨i, hi⟩ : ∃ i, (limbs n).length = i + 1 := ⟨(limbs n).length - 1, by omega⟩
    refine Ev.neg (by omega) ?_
    have hw : wrap64 (((limbs n).length : Int) - 1) = (i : Int) := by rw [w64 (by omega) (by omega)]; omega
    rw [hw]
    refine Ev.pos (by omega) ?_
    refine Ev.pos (by omega) ?_
    have hlow := limbs_low h0
    rw [hi, Nat.add_sub_cancel] at hlow
    have htop := top_digit (by decide) (limbs_ok n) i hi
    rw [W_limbs] at htop
    have hd := (limbs_ok n).getD (by decide) i
    rw [rd_nat]
    generalize (limbs n).getD i 0 = d at htop hd ⊢
    have e : (4294967296 : Nat) ^ i = 2 ^ (32 * i) := by rw [show (4294967296 : Nat) = 2 ^ 32 by decide, ← Nat.pow_mul]
    rw [e] at htop hlow
    have hb : blen n = blen d.toNat + 32 * i := by rw [blen_shift (32 * i) n hlow, htop]
    have hb2 : blen d.toNat ≤ 32 := blen_le _ (by omega)
    refine Ev.some (a := ((blen d.toNat : Nat) : Int)) ?_ ?_
    · unfold bits_Len32.f
      rw [if_pos (by omega), if_pos (by omega), bitLen_blen _ (by omega)]
    · rw [w64 (x := 32 * (i : Int)) (by omega) (by omega), w64 (by omega) (by omega), show 32 * (i : Int) + ((blen d.toNat : Nat) : Int) = ((blen n : Nat) : Int) by omega]
      exact Ev.now _
theorem nat_low {n : Nat} (h : n ≠ 0) : 256 ^ ((nat n).size - 1) ≤ n := by
  apply Classical.byContradiction
  intro hn
  have h1 := nat_size_le (n := n) (k := (nat n).size - 1) (by omega)
  have h2 : (nat n).size ≠ 0 := fun h2 => h (nat_size_zero.1 h2)
  omega
theorem refBitsRow (x : Nat) : ∀ y : Nat, y + x < 4611686018427387904 → Ev (fun k => abacistref01_Bits.l0 k (y : Int) (x : Int)) ((y + blen x : Nat) : Int) := by
  induction x using Nat.strongRecOn with
  | _ x ih =>
    intro y hy
    refine Ev.step (fun k => by rw [abacistref01_Bits.l0]) ?_
    by_cases h : x = 0
    · subst h
      refine Ev.neg (by omega) ?_
      rw [blen_zero]
      exact Ev.now _
    · refine Ev.pos (by omega) ?_
      rw [w64 (by omega) (by omega), show (y : Int) + 1 = ((y + 1 : Nat) : Int) by omega, show (x : Int) / 2 = ((x / 2 : Nat) : Int) by omega]
      have := ih (x / 2) (by omega) (y + 1) (by omega)
      rw [blen_pos h, show y + (blen (x / 2) + 1) = y + 1 + blen (x / 2) by omega]
      exact this
theorem refBits (s : ByteArray) (hs : s.size ≤ 140737488355328) : Ev (fun k => abacistref01_Bits.f k s) ((blen (val s) : Nat) : Int) := by
  unfold abacistref01_Bits.f
  refine Ev.bind (refTrim s) ?_
  have hsz := nat_val_size s
  generalize val s = n at hsz ⊢
  by_cases h0 : n = 0
  · subst h0
    refine Ev.pos (nat_toList_nil.2 rfl) ?_
    rw [blen_zero]
    exact Ev.now _
  · refine Ev.neg (fun h => h0 (nat_toList_nil.1 h)) ?_
    have h1 : (nat n).size ≠ 0 := fun h => h0 (nat_size_zero.1 h)
    refine Ev.pos (by omega) ?_
    obtain ⟨i, hi⟩ : ∃ i, (nat n).size = i + 1 := ⟨(nat n).size - 1, by omega⟩
    have hlow := nat_low h0
    rw [hi, Nat.add_sub_cancel] at hlow
    have htop := top_digit (by decide) (R_ok (nat n)) i (by rw [R_length, hi])
    rw [W_R, val_nat, R_getD _ _ (by omega), show (nat n).size - 1 - i = 0 by omega] at htop
    have hd := (R_ok (nat n)).getD (by decide) i
    rw [R_getD _ _ (by omega), show (nat n).size - 1 - i = 0 by omega] at hd
    have e : (256 : Nat) ^ i = 2 ^ (8 * i) := by rw [show (256 : Nat) = 2 ^ 8 by decide, ← Nat.pow_mul]
    rw [e] at htop hlow
    simp only [Int.natCast_zero] at htop hd
    have hb : blen n = blen (bt (nat n) 0).toNat + 8 * i := by rw [blen_shift (8 * i) n hlow, htop]
    rw [w64 (x := ((nat n).size : Int) - 1) (by omega) (by omega), w64 (by omega) (by omega)]
    have := refBitsRow (bt (nat n) 0).toNat (8 * i) (by omega)
    rw [show ((8 * i : Nat) : Int) = 8 * (((nat n).size : Int) - 1) by omega, show (((bt (nat n) 0).toNat : Nat) : Int) = bt (nat n) 0 by omega, show 8 * i + blen (bt (nat n) 0).toNat = blen n by omega] at this
    exact this

/-! ### order -/
def sgn (a b : Nat) : Int := if a < b then -1 else if a = b then 0 else 1
theorem cmpW {l m : List Int} (hl : Ok 4294967296 l) (hm : Ok 4294967296 m) (k : Nat) (h1 : k ≤ l.length) (h2 : k ≤ m.length) : cmpFrom l m k = sgn (W 4294967296 (l.take k)) (W 4294967296 (m.take k)) := by
  induction k with
  | zero => simp [cmpFrom, sgn]
  | succ k ih =>
    have e1 := W_take 4294967296 l k
    have e2 := W_take 4294967296 m k
    have b1 := W_lt (hl.take k)
    have b2 := W_lt (hm.take k)
    rw [List.length_take, Nat.min_eq_left (by omega)] at b1 b2
    have d1 := hl.getD (by decide) k
    have d2 := hm.getD (by decide) k
    rw [cmpFrom, ih (by omega) (by omega), e1, e2, rd_nat, rd_nat]
    generalize l.getD k 0 = x at d1 ⊢
    generalize m.getD k 0 = y at d2 ⊢
    generalize W 4294967296 (l.take k) = a at b1 ⊢
    generalize W 4294967296 (m.take k) = b at b2 ⊢
    generalize 4294967296 ^ k = P at b1 b2 ⊢
    by_cases hxy : x = y
    · subst hxy
      rw [if_pos rfl]
      unfold sgn
      simp only [Nat.add_lt_add_iff_right, Nat.add_right_cancel_iff]
    · rw [if_neg hxy]
      by_cases hgt : x > y
      · rw [if_pos hgt]
        have h3 : P * (y.toNat + 1) ≤ P * x.toNat := Nat.mul_le_mul_left _ (by omega)
        rw [Nat.mul_add] at h3
        unfold sgn
        rw [if_neg (by omega), if_neg (by omega)]
      · rw [if_neg hgt]
        have h3 : P * (x.toNat + 1) ≤ P * y.toNat := Nat.mul_le_mul_left _ (by omega)
        rw [Nat.mul_add] at h3
        unfold sgn
        rw [if_pos (by omega)]
theorem limbs_len_lt {a b : Nat} (h : (limbs a).length < (limbs b).length) : a < b := by
  have h1 := lt_limbs a
  have hb : b ≠ 0 := by rintro rfl; rw [limbs_zero] at h; simp at h
  have h2 := limbs_low hb
  have h3 : 4294967296 ^ (limbs a).length ≤ 4294967296 ^ ((limbs b).length - 1) := Nat.pow_le_pow_right (by decide) (by omega)
  omega
theorem natLcmp (a b : Nat) : nat_limbs_cmp.f (limbs a) (limbs b) = some (sgn a b) := by
  unfold nat_limbs_cmp.f
  congr 1
  by_cases h : (limbs a).length = (limbs b).length
  · rw [if_pos h, cmpW (limbs_ok a) (limbs_ok b) _ (by omega) (by omega), W_all _ _ _ (by omega), W_all _ _ _ (by omega), W_limbs, W_limbs]
  · rw [if_neg h]
    unfold sgn
    by_cases h2 : (limbs a).length > (limbs b).length
    · have := limbs_len_lt h2
      rw [if_pos h2, if_neg (by omega), if_neg (by omega)]
    · have := limbs_len_lt (a := a) (b := b) (by omega)
      rw [if_neg h2, if_pos (by omega)]
theorem natCmp (s t : ByteArray) (hs : s.size ≤ 140737488351232) (ht : t.size ≤ 140737488351232) : Ev (fun k => nat_Cmp.f k s t) (sgn (val s) (val t)) := by
  unfold nat_Cmp.f
  refine Ev.bind (natRead s hs) ?_
  refine Ev.bind (natRead t ht) ?_
  exact Ev.some (natLcmp _ _) (Ev.now _)
theorem bytesLess_val (x y : List UInt8) (h : x.length = y.length) : Op.bytesLess x y = decide (valL (x.map UInt8.toNat) < valL (y.map UInt8.toNat)) := by
  induction x generalizing y with
  | nil =>
    cases y with
    | nil => rfl
    | cons b y => simp at h
  | cons a x ih =>
    cases y with
    | nil => simp at h
    | cons b y =>
      have h' : x.length = y.length := by simpa using h
      have b1 := valL_lt (x.map UInt8.toNat) (by intro c hc; obtain ⟨u, _, rfl⟩ := List.mem_map.1 hc; exact u.toNat_lt)
      have b2 := valL_lt (y.map UInt8.toNat) (by intro c hc; obtain ⟨u, _, rfl⟩ := List.mem_map.1 hc; exact u.toNat_lt)
      rw [List.length_map] at b1 b2
      rw [Op.bytesLess, ih y h', List.map_cons, List.map_cons, valL_cons, valL_cons, List.length_map, List.length_map, h']
      rw [h'] at b1
      generalize valL (x.map UInt8.toNat) = v at b1 ⊢
      generalize valL (y.map UInt8.toNat) = w at b2 ⊢
      generalize 256 ^ y.length = P at b1 b2 ⊢
      by_cases e : a = b
      · subst e
        simp [UInt8.lt_irrefl]
      · by_cases l : a < b
        · have l' := UInt8.lt_iff_toNat_lt.1 l
          have h3 : (a.toNat + 1) * P ≤ b.toNat * P := Nat.mul_le_mul_right _ (by omega)
          rw [Nat.add_mul] at h3
          simp only [l, decide_true, Bool.true_or]
          exact (decide_eq_true (by omega)).symm
        · have l' : ¬ a.toNat < b.toNat := fun h => l (UInt8.lt_iff_toNat_lt.2 h)
          have e' : a.toNat ≠ b.toNat := fun h => e (UInt8.toNat_inj.1 h)
          have h3 : (b.toNat + 1) * P ≤ a.toNat * P := Nat.mul_le_mul_right _ (by omega)
          rw [Nat.add_mul] at h3
          have e2 : (a == b) = false := beq_eq_false_iff_ne.2 e
          simp only [l, e2, decide_false, Bool.false_or, Bool.false_and]
          exact (decide_eq_false (by omega)).symm
theorem nat_len_lt {a b : Nat} (h : (nat a).size < (nat b).size) : a < b := by
  have h1 := val_lt (nat a)
  rw [val_nat] at h1
  have hb : b ≠ 0 := by rintro rfl; have := nat_size_zero.2 (rfl : 0 = 0); omega
  have h2 := nat_low hb
  have h3 : 256 ^ (nat a).size ≤ 256 ^ ((nat b).size - 1) := Nat.pow_le_pow_right (by decide) (by omega)
  omega
theorem refCmpJ (a b : Nat) (x : Bool) (h : x = decide (a < b)) : Ev (fun k => abacistref01_Cmp.j0 k (nat a) (nat b) x) (sgn a b) := by
  refine Ev.step (fun k => by rw [abacistref01_Cmp.j0]) ?_
  by_cases hl : a < b
  · refine Ev.pos (by rw [h]; exact decide_eq_true hl) ?_
    rw [show sgn a b = -1 from if_pos hl]
    exact Ev.now _
  · refine Ev.neg (by rw [h, decide_eq_false hl]; decide) ?_
    by_cases he : a = b
    · refine Ev.pos (nat_toList.2 he) ?_
      rw [show sgn a b = 0 by unfold sgn; rw [if_neg hl, if_pos he]]
      exact Ev.now _
    · refine Ev.neg (fun h => he (nat_toList.1 h)) ?_
      rw [show sgn a b = 1 by unfold sgn; rw [if_neg hl, if_neg he]]
      exact Ev.now _
theorem refCmp (s t : ByteArray) : Ev (fun k => abacistref01_Cmp.f k s t) (sgn (val s) (val t)) := by
  unfold abacistref01_Cmp.f
  refine Ev.bind (refTrim s) ?_
  refine Ev.bind (refTrim t) ?_
  generalize val s = a
  generalize val t = b
  by_cases h : (nat a).size < (nat b).size
  · refine Ev.pos (by omega) ?_
    exact refCmpJ a b true (decide_eq_true (nat_len_lt h)).symm
  · refine Ev.neg (by omega) ?_
    by_cases h2 : (nat a).size = (nat b).size
    · refine Ev.pos (by omega) ?_
      refine refCmpJ a b _ ?_
      rw [bytesLess_val _ _ (by rw [toList_eq, toList_eq, data_length, data_length, h2]), toList_eq, toList_eq]
      show decide (valL (L (nat a)) < valL (L (nat b))) = _
      have e1 : valL (L (nat a)) = a := val_nat a
      have e2 : valL (L (nat b)) = b := val_nat b
      rw [e1, e2]
    · refine Ev.neg (by omega) ?_
      exact refCmpJ a b false (decide_eq_false (fun hl => by have := nat_len_lt (a := b) (b := a) (by omega); omega)).symm

/-! ### sums: the limbs -/
theorem add_step (P B w c a a' x y q r : Nat) (h : w + P * c = x + y) (hv : a + a' + c = B * q + r) : (w + P * r) + P * B * q = (x + P * a) + (y + P * a') := by
  have : P * (a + a' + c) = P * (B * q + r) := by rw [hv]
  grind
theorem natAdd (s t : ByteArray) (hs : s.size ≤ 1099511627776) (ht : t.size ≤ 1099511627776) : Ev (fun k => nat_Add.f k s t) (nat (val s + val t)) := by
  unfold nat_Add.f
  refine Ev.bind (natRead s (by omega)) ?_
  refine Ev.bind (natRead t (by omega)) ?_
  have hs' := limbs_val s
  have ht' := limbs_val t
  generalize hA : val s = A at hs' ⊢
  generalize hB : val t = B at ht' ⊢
  obtain ⟨n, hn, hn1, hn2⟩ : ∃ n : Nat, mx ((limbs A).length : Int) ((limbs B).length : Int) = (n : Int) ∧ n ≤ 274877906945 ∧ (limbs A).length ≤ n ∧ (limbs B).length ≤ n :=
    ⟨max (limbs A).length (limbs B).length, by unfold mx; split <;> omega, by omega, by omega, by omega⟩
  rw [hn]
  suffices hh : ∀ (d i : Nat) (x7 : List Int) (c : Nat), i + d = n → x7.length = i → Ok 4294967296 x7 → c ≤ 1 →
      W 4294967296 x7 + 4294967296 ^ i * c = W 4294967296 ((limbs A).take i) + W 4294967296 ((limbs B).take i) →
      Ev (fun k => nat_Add.l0 k (limbs A) (limbs B) x7 (c : Int) (n : Int) (i : Int)) (nat (A + B)) from
    hh n 0 [] 0 (by omega) rfl (Ok.nil _) (by omega) (by simp [W])
  intro d
  induction d with
  | zero =>
    intro i x7 c hi hl hk hc hw
    refine Ev.step (fun k => by rw [nat_Add.l0]) ?_
    refine Ev.neg (by omega) ?_
    refine Ev.pos (by omega) ?_
    refine Ev.bind ?_ (Ev.now _)
    have := natText (hk.snoc (a := (c : Int) % 4294967296) (by omega) (by omega)) (by simp; omega)
    rw [W_snoc, hl, show ((c : Int) % 4294967296).toNat = c by omega, hw, W_all _ _ _ (by omega), W_all _ _ _ (by omega), W_limbs, W_limbs] at this
    exact this
  | succ d ih =>
    intro i x7 c hi hl hk hc hw
    refine Ev.step (fun k => by rw [nat_Add.l0]) ?_
    refine Ev.pos (by omega) ?_
    refine Ev.some (atW (limbs_ok A) i) ?_
    refine Ev.some (atW (limbs_ok B) i) ?_
    refine Ev.pos (by omega) ?_
    have d1 := (limbs_ok A).getD (by decide) i
    have d2 := (limbs_ok B).getD (by decide) i
    have e1 := W_take 4294967296 (limbs A) i
    have e2 := W_take 4294967296 (limbs B) i
    generalize (limbs A).getD i 0 = a at d1 e1 ⊢
    generalize (limbs B).getD i 0 = b at d2 e2 ⊢
    have hv : IntKind.u64.wrap (IntKind.u64.wrap (a + b) + (c : Int)) = ((a.toNat + b.toNat + c : Nat) : Int) := by rw [u64, u64]; omega
    rw [hv, w64 (by omega) (by omega), show (i : Int) + 1 = ((i + 1 : Nat) : Int) by omega, show ((a.toNat + b.toNat + c : Nat) : Int) / 4294967296 = (((a.toNat + b.toNat + c) / 4294967296 : Nat) : Int) by omega]
    refine ih (i + 1) _ _ (by omega) (by simp [hl]) (hk.snoc (by omega) (by omega)) (by omega) ?_
    rw [W_snoc, hl, e1, e2, Nat.pow_succ, show (((a.toNat + b.toNat + c : Nat) : Int) % 4294967296).toNat = (a.toNat + b.toNat + c) % 4294967296 by omega]
    exact add_step _ _ _ _ _ _ _ _ _ _ hw (Nat.div_add_mod _ _).symm
theorem sub_step (P B w c a a' x y q r : Nat) (h : w + y = x + P * c) (hv : r + a' + c = a + B * q) : (w + P * r) + (y + P * a') = (x + P * a) + P * B * q := by
  have : P * (r + a' + c) = P * (a + B * q) := by rw [hv]
  grind
theorem natSub (s t : ByteArray) (hs : s.size ≤ 1099511627776) (ht : t.size ≤ 1099511627776) : Ev (fun k => nat_Sub.f k s t) (nat (val s - val t)) := by
  unfold nat_Sub.f
  refine Ev.bind (natRead s (by omega)) ?_
  refine Ev.bind (natRead t (by omega)) ?_
  have hs' := limbs_val s
  have ht' := limbs_val t
  generalize hA : val s = A at hs' ⊢
  generalize hB : val t = B at ht' ⊢
  refine Ev.some (natLcmp A B) ?_
  by_cases hlt : A < B
  · refine Ev.pos (by rw [show sgn A B = -1 from if_pos hlt]; decide) ?_
    rw [show A - B = 0 by omega, nat_zero]
    exact Ev.now _
  · refine Ev.neg (by unfold sgn; rw [if_neg hlt]; split <;> decide) ?_
    have hll : (limbs B).length ≤ (limbs A).length := by
      apply Classical.byContradiction
      intro h
      have := limbs_len_lt (a := A) (b := B) (by omega)
      omega
    suffices hh : ∀ (d i : Nat) (x7 : List Int) (c : Nat), i + d = (limbs A).length → x7.length = i → Ok 4294967296 x7 → c ≤ 1 →
        W 4294967296 x7 + W 4294967296 ((limbs B).take i) = W 4294967296 ((limbs A).take i) + 4294967296 ^ i * c →
        Ev (fun k => nat_Sub.l0 k (limbs A) (limbs B) x7 (c : Int) ((limbs A).length : Int) (i : Int)) (nat (A - B)) from
      hh (limbs A).length 0 [] 0 (by omega) rfl (Ok.nil _) (by omega) (by simp [W])
    intro d
    induction d with
    | zero =>
      intro i x7 c hi hl hk hc hw
      refine Ev.step (fun k => by rw [nat_Sub.l0]) ?_
      refine Ev.neg (by omega) ?_
      refine Ev.bind ?_ (Ev.now _)
      rw [W_all _ _ _ (by omega), W_all _ _ _ (by omega), W_limbs, W_limbs] at hw
      have hx := W_lt hk
      rw [hl] at hx
      have h0 : c = 0 := by
        apply Classical.byContradiction
        intro h
        have : c = 1 := by omega
        subst this
        omega
      subst h0
      have := natText hk (by omega)
      rwa [show W 4294967296 x7 = A - B by omega] at this
    | succ d ih =>
      intro i x7 c hi hl hk hc hw
      refine Ev.step (fun k => by rw [nat_Sub.l0]) ?_
      refine Ev.pos (by omega) ?_
      refine Ev.some (atW (limbs_ok A) i) ?_
      refine Ev.some (atW (limbs_ok B) i) ?_
      refine Ev.pos (by omega) ?_
      have d1 := (limbs_ok A).getD (by decide) i
      have d2 := (limbs_ok B).getD (by decide) i
      have e1 := W_take 4294967296 (limbs A) i
      have e2 := W_take 4294967296 (limbs B) i
      generalize (limbs A).getD i 0 = a at d1 e1 ⊢
      generalize (limbs B).getD i 0 = b at d2 e2 ⊢
      obtain ⟨r, q, h1, h2, hq, hr, hv⟩ : ∃ r q : Nat, IntKind.u64.wrap (IntKind.u64.wrap (a - b) - (c : Int)) % 4294967296 = (r : Int) ∧ IntKind.u64.wrap (IntKind.u64.wrap (a - b) - (c : Int)) / 9223372036854775808 = (q : Int) ∧ q ≤ 1 ∧ r < 4294967296 ∧ r + b.toNat + c = a.toNat + 4294967296 * q := by
        rw [u64, u64]
        by_cases hneg : a - b - (c : Int) < 0
        · exact ⟨(a - b - (c : Int) + 4294967296).toNat, 1, by omega, by omega, by omega, by omega, by omega⟩
        · exact ⟨(a - b - (c : Int)).toNat, 0, by omega, by omega, by omega, by omega, by omega⟩
      rw [h1, h2, w64 (by omega) (by omega), show (i : Int) + 1 = ((i + 1 : Nat) : Int) by omega]
      refine ih (i + 1) _ _ (by omega) (by simp [hl]) (hk.snoc (by omega) (by omega)) hq ?_
      rw [W_snoc, hl, e1, e2, Nat.pow_succ, Int.toNat_natCast]
      exact sub_step _ _ _ _ _ _ _ _ _ _ hw hv
end Go.Proofs.YtcdcijhfjiahkaaDoorR.P
