/- What the printed functions of the package of naturals and of its reference answer, part 3: products, and the reference's sums. -/
import Derived.Test.YtcdcijhfjiahkaaDoorRPnat2
namespace Go.Proofs.YtcdcijhfjiahkaaDoorR.P
open Go.RowKit Go.Proofs.YtcdcijhfjiahkaaDoorRW.PrintWords Go.Proofs.YtcdcijhfjiahkaaDoorRW.PrintMore Go.Proofs.YtcdcijhfjiahkaaDoorR.M Go.Proofs.YtcdcijhfjiahkaaDoorR.X
set_option linter.unusedVariables false
set_option linter.unusedSimpArgs false
set_option maxHeartbeats 1000000

structure Keep (p : Prop) : Prop where
  out : p
theorem w64_add (a b : Nat) (h : a + b < 9223372036854775808) : wrap64 ((a : Int) + (b : Int)) = ((a + b : Nat) : Int) := by rw [w64 (by omega) (by omega)]; omega
theorem w64_back (n i : Nat) (h : n < 9223372036854775807) (hi : i < n) : wrap64 (wrap64 ((n : Int) - 1) - (i : Int)) = ((n - 1 - i : Nat) : Int) := by
  rw [w64 (x := (n : Int) - 1) (by omega) (by omega), w64 (by omega) (by omega)]; omega
theorem w64_succ (a : Nat) (h : a + 1 < 9223372036854775808) : wrap64 ((a : Int) + 1) = ((a + 1 : Nat) : Int) := by rw [w64 (by omega) (by omega)]; omega
/-- A row of a product: digit j of the second number, at place p, with y the product's digit there, and c carried. -/
theorem mul_step (B P w w' x m c a b y q r Pi Pj : Nat) (h : w + P * c = x + a * Pi * m) (hp : P = Pi * Pj) (hset : w' + P * y = w + P * r) (hv : a * b + y + c = B * q + r) :
    w' + P * B * q = x + a * Pi * (m + Pj * b) := by
  subst hp
  have : Pi * Pj * (a * b + y + c) = Pi * Pj * (B * q + r) := by rw [hv]
  have h2 : w' + Pi * Pj * B * q + Pi * Pj * y + Pi * Pj * c = x + a * Pi * (m + Pj * b) + Pi * Pj * y + Pi * Pj * c := by grind
  omega
theorem mul_row (B : Nat) (Pi Pl w w' x m c a : Nat) (h : w + Pi * Pl * c = x + a * Pi * m) (hset : w' + Pi * Pl * 0 = w + Pi * Pl * c) (hx : ∃ u, x = u * m ) : w' = x + Pi * a * m := by
  have : a * Pi * m = Pi * a * m := by rw [Nat.mul_comm a]
  omega
theorem getD_zero_of_lt {B : Nat} (hB : 0 < B) {l : List Int} (h : Ok B l) (p : Nat) (hp : p < l.length) (hw : W B l < B ^ p) : l.getD p 0 = 0 := by
  have h1 := W_take B l p
  have h2 := W_split B l (p + 1) (by omega)
  have h3 := h.getD hB p
  have h4 : B ^ p * 1 ≤ B ^ p * (l.getD p 0).toNat ∨ (l.getD p 0).toNat = 0 := by
    by_cases h0 : (l.getD p 0).toNat = 0
    · exact .inr h0
    · exact .inl (Nat.mul_le_mul_left _ (by omega))
  rcases h4 with h4 | h4 <;> omega
theorem le_mul_pred {a b B : Nat} (ha : a < B) (hb : b < B) : a * b + 2 * B ≤ B * B + 1 := by
  obtain ⟨x, rfl⟩ : ∃ x, B = a + 1 + x := ⟨B - (a + 1), by omega⟩
  obtain ⟨y, hy⟩ : ∃ y, a + 1 + x = b + 1 + y := ⟨a + 1 + x - (b + 1), by omega⟩
  have h1 : a * b ≤ (a + x) * (b + y) := Nat.mul_le_mul (by omega) (by omega)
  have h2 : b + y = a + x := by omega
  rw [h2] at h1
  have h3 : (a + 1 + x) * (a + 1 + x) = (a + x) * (a + x) + 2 * (a + x) + 1 := by grind
  omega
theorem W_set' (B : Nat) (l : List Int) (p : Nat) (v : Nat) (h : p < l.length) : W B (l.set p (v : Int)) + B ^ p * (l.getD p 0).toNat = W B l + B ^ p * v := W_set B l p v h
theorem natMulRow (A Z n : Nat) (x7 : List Int) (i : Nat) (hi : i < (limbs A).length) (hn : x7.length = (limbs A).length + (limbs Z).length) (hbig : x7.length ≤ 35184372088832) (hk : Ok 4294967296 x7) (hz : x7.getD (i + (limbs Z).length) 0 = 0)
    (hx : ∃ u, W 4294967296 x7 = u * Z) (r : ByteArray)
    (h : ∀ y : List Int, y.length = x7.length → Ok 4294967296 y → W 4294967296 y = W 4294967296 x7 + 4294967296 ^ i * ((limbs A).getD i 0).toNat * Z → Ev (fun k => nat_Mul.l0 k (limbs A) (limbs Z) y ((limbs A).length : Int) ((i + 1 : Nat) : Int)) r) :
    Ev (fun k => nat_Mul.l1 k (limbs A) (limbs Z) x7 (i : Int) 0 ((limbs A).length : Int) (i : Int) ((limbs Z).length : Int) 0) r := by
  have dA := (limbs_ok A).getD (by decide) i
  suffices hh : ∀ (d j : Nat) (y : List Int) (c : Nat), j + d = (limbs Z).length → y.length = x7.length → Ok 4294967296 y → c < 4294967296 → y.getD (i + (limbs Z).length) 0 = 0 →
      Keep (W 4294967296 y + 4294967296 ^ (i + j) * c = W 4294967296 x7 + ((limbs A).getD i 0).toNat * 4294967296 ^ i * W 4294967296 ((limbs Z).take j)) →
      Ev (fun k => nat_Mul.l1 k (limbs A) (limbs Z) y (i : Int) (c : Int) ((limbs A).length : Int) (i : Int) ((limbs Z).length : Int) (j : Int)) r from
    hh (limbs Z).length 0 x7 0 (by omega) rfl hk (by omega) hz ⟨by rw [Nat.mul_zero, List.take_zero, W, Nat.mul_zero]⟩
  intro d
  induction d with
  | zero =>
    intro j y c hj hl hky hc h0 hw
    refine Ev.step (fun k => by rw [nat_Mul.l1]) ?_
    refine Ev.neg (by omega) ?_
    rw [w64_add _ _ (by omega), w64_succ _ (by omega), Int.toNat_natCast, show (c : Int) % 4294967296 = (c : Int) by omega]
    refine Ev.pos (by omega) ?_
    refine Ev.pos (by omega) ?_
    refine h _ (by rw [List.length_set, hl]) (hky.set _ (by omega) (by omega)) ?_
    have hs := W_set' 4294967296 y (i + (limbs Z).length) c (by omega)
    rw [h0] at hs
    have : j = (limbs Z).length := by omega
    subst this
    have hw := hw.out
    rw [W_all _ _ _ (Nat.le_refl _), W_limbs, Nat.pow_add] at hw
    rw [Nat.pow_add] at hs
    exact mul_row 4294967296 _ _ _ _ _ _ _ _ hw hs hx
  | succ d ih =>
    intro j y c hj hl hky hc h0 hw
    refine Ev.step (fun k => by rw [nat_Mul.l1]) ?_
    refine Ev.pos (by omega) ?_
    rw [w64_add _ _ (by omega)]
    refine Ev.some (atW (limbs_ok A) i) ?_
    refine Ev.some (atW (limbs_ok Z) j) ?_
    refine Ev.some (atW hky (i + j)) ?_
    refine Ev.pos (by omega) ?_
    refine Ev.pos (by omega) ?_
    have dZ := (limbs_ok Z).getD (by decide) j
    have dy := hky.getD (by decide) (i + j)
    have eZ := Keep.mk (W_take 4294967296 (limbs Z) j)
    obtain ⟨a, ha⟩ : ∃ a : Nat, (limbs A).getD i 0 = (a : Int) := ⟨((limbs A).getD i 0).toNat, by omega⟩
    obtain ⟨b, hb⟩ : ∃ b : Nat, (limbs Z).getD j 0 = (b : Int) := ⟨((limbs Z).getD j 0).toNat, by omega⟩
    obtain ⟨u, hu⟩ : ∃ u : Nat, y.getD (i + j) 0 = (u : Int) := ⟨(y.getD (i + j) 0).toNat, by omega⟩
    rw [ha] at dA
    rw [hb] at dZ
    rw [hu] at dy
    have hm := le_mul_pred (a := a) (b := b) (B := 4294967296) (by omega) (by omega)
    have hv : Keep (IntKind.u64.wrap (IntKind.u64.wrap (IntKind.u64.wrap ((limbs A).getD i 0 * (limbs Z).getD j 0) + y.getD (i + j) 0) + (c : Int)) = ((a * b + u + c : Nat) : Int)) := by
      constructor
      rw [ha, hb, hu, u64, u64, u64, ← Int.natCast_mul]
      generalize a * b = ab at hm ⊢
      omega
    rw [hv.out, Int.toNat_natCast, w64_succ _ (by omega)]
    have hV := Nat.div_add_mod (a * b + u + c) 4294967296
    have hV2 : a * b + u + c < 18446744073709551616 := by generalize a * b = ab at hm ⊢; omega
    have hs := Keep.mk (W_set' 4294967296 y (i + j) ((a * b + u + c) % 4294967296) (by omega))
    generalize hVV : a * b + u + c = V at hV hV2 hs ⊢
    rw [show (V : Int) % 4294967296 = ((V % 4294967296 : Nat) : Int) by omega, show (V : Int) / 4294967296 = ((V / 4294967296 : Nat) : Int) by omega]
    refine ih (j + 1) _ _ (by omega) (by rw [List.length_set, hl]) (hky.set _ (by omega) (by omega)) (by omega) ?_ ⟨?_⟩
    · rw [M.getD_set_ne _ _ _ _ (by omega), h0]
    · rw [eZ.out, hb, Int.toNat_natCast, ← Nat.add_assoc, Nat.pow_succ]
      have hs := hs.out
      rw [hu, Int.toNat_natCast] at hs
      exact mul_step _ _ _ _ _ _ _ _ b u _ _ _ _ hw.out (Nat.pow_add _ _ _) hs (by rw [ha, Int.toNat_natCast]; omega)
theorem natMul (s t : ByteArray) (hs : s.size ≤ 1099511627776) (ht : t.size ≤ 1099511627776) : Ev (fun k => nat_Mul.f k s t) (nat (val s * val t)) := by
  unfold nat_Mul.f
  refine Ev.bind (natRead s (by omega)) ?_
  refine Ev.bind (natRead t (by omega)) ?_
  have hs' := limbs_val s
  have ht' := limbs_val t
  generalize hA : val s = A at hs' ⊢
  generalize hB : val t = Z at ht' ⊢
  rw [w64_add _ _ (by omega), Int.toNat_natCast]
  refine Ev.pos (by omega) ?_
  refine Ev.pos (by omega) ?_
  suffices hh : ∀ (d i : Nat) (x7 : List Int), i + d = (limbs A).length → x7.length = (limbs A).length + (limbs Z).length → Ok 4294967296 x7 → Keep (W 4294967296 x7 = W 4294967296 ((limbs A).take i) * Z) →
      Ev (fun k => nat_Mul.l0 k (limbs A) (limbs Z) x7 ((limbs A).length : Int) (i : Int)) (nat (A * Z)) from
    hh (limbs A).length 0 _ (by omega) (by rw [List.length_replicate]) (Ok.zeros (by decide) _) ⟨by rw [W_zeros, List.take_zero, W, Nat.zero_mul]⟩
  intro d
  induction d with
  | zero =>
    intro i x7 hi hl hk hw
    refine Ev.step (fun k => by rw [nat_Mul.l0]) ?_
    refine Ev.neg (by omega) ?_
    refine Ev.bind ?_ (Ev.now _)
    have := natText hk (by omega)
    rwa [hw.out, W_all _ _ _ (by omega), W_limbs] at this
  | succ d ih =>
    intro i x7 hi hl hk hw
    refine Ev.step (fun k => by rw [nat_Mul.l0]) ?_
    refine Ev.pos (by omega) ?_
    have hlt : W 4294967296 x7 < 4294967296 ^ (i + (limbs Z).length) := by
      rw [hw.out, Nat.pow_add]
      have h1 := W_lt ((limbs_ok A).take i)
      rw [List.length_take, Nat.min_eq_left (by omega)] at h1
      have h2 := lt_limbs Z
      exact Nat.mul_lt_mul'' h1 h2
    refine natMulRow A Z 0 x7 i (by omega) hl (by omega) hk (getD_zero_of_lt (by decide) hk _ (by omega) hlt) ⟨_, hw.out⟩ _ ?_
    intro y hyl hyk hyw
    refine ih (i + 1) y (by omega) (by omega) hyk ⟨?_⟩
    rw [hyw, hw.out, W_take, Nat.add_mul]

/-! ### the reference: bytes -/
theorem refAt (s : ByteArray) (i : Nat) (hs : s.size < 9223372036854775807) : abacistref01_at.f s (i : Int) = some ((R s).getD i 0) := by
  unfold abacistref01_at.f
  by_cases h : i < s.size
  · have e : wrap64 (wrap64 ((s.size : Int) - 1) - (i : Int)) = ((s.size - 1 - i : Nat) : Int) := by rw [w64 (x := (s.size : Int) - 1) (by omega) (by omega), w64 (by omega) (by omega)]; omega
    rw [if_neg (by omega), e, if_pos (by omega), if_pos (by omega), ← R_getD s i h]
    have := (R_ok s).getD (by decide) i
    rw [w64 (by omega) (by omega)]
  · rw [if_pos (by omega), List.getD_eq_getElem?_getD, List.getElem?_eq_none (by rw [R_length]; omega)]
    rfl
theorem W_revBytes (l : List Int) (h : Ok 256 l) : valL (l.reverse.map Int.toNat) = W 256 l := by
  rw [← W_rev, List.map_map]
  congr 1
  have : l.reverse.map ((fun b : Nat => (b : Int)) ∘ Int.toNat) = l.reverse := by
    conv => rhs; rw [← List.map_id l.reverse]
    apply List.map_congr_left
    intro x hx
    have := h x (by simpa using hx)
    simp only [Function.comp, id]
    omega
  rw [this, List.reverse_reverse]
theorem refTurned (l : List Int) (hk : Ok 256 l) (hl : l.length ≤ 281474976710656) : Ev (fun k => abacistref01_turned.f k l) (nat (W 256 l)) := by
  unfold abacistref01_turned.f
  refine Ev.pos (by omega) ?_
  refine Ev.pos (by omega) ?_
  rw [Int.toNat_natCast]
  suffices hh : ∀ (d i : Nat) (y : List Int), i + d = l.length → y.length = l.length → (∀ p, p < i → y.getD (l.length - 1 - p) 0 = l.getD p 0) →
      Ev (fun k => abacistref01_turned.l0 k l y (i : Int)) (nat (W 256 l)) from
    hh l.length 0 _ (by omega) (by rw [List.length_replicate]) (fun p hp => absurd hp (by omega))
  intro d
  induction d with
  | zero =>
    intro i y hi hy hp
    refine Ev.step (fun k => by rw [abacistref01_turned.l0]) ?_
    refine Ev.neg (by omega) ?_
    refine Ev.bind ?_ (Ev.now _)
    have hrev : y = l.reverse := by
      apply List.ext_getElem
      · rw [List.length_reverse, hy]
      · intro p h1 h2
        have := hp (l.length - 1 - p) (by omega)
        rw [show l.length - 1 - (l.length - 1 - p) = p by omega, List.getD_eq_getElem?_getD, List.getElem?_eq_getElem h1, List.getD_eq_getElem?_getD, List.getElem?_eq_getElem (by omega)] at this
        simp only [Option.getD_some] at this
        rw [this, List.getElem_reverse]
    have hok : Ok 256 l.reverse := fun x hx => hk x (by simpa using hx)
    have hv : val (strOfNums y) = W 256 l := by
      unfold val
      rw [hrev, L_nums _ hok, W_revBytes l hk]
    have := refTrim (strOfNums y)
    rwa [hv] at this
  | succ d ih =>
    intro i y hi hy hp
    refine Ev.step (fun k => by rw [abacistref01_turned.l0]) ?_
    have dl := hk.getD (by decide) i
    rw [w64_back _ _ (by omega) (by omega), Int.toNat_natCast, rd_nat, w64_succ _ (by omega), show l.getD i 0 % 256 = l.getD i 0 by omega]
    refine Ev.pos (by omega) ?_
    refine Ev.pos (by omega) ?_
    refine Ev.pos (by omega) ?_
    refine Ev.pos (by omega) ?_
    refine ih (i + 1) _ (by omega) (by rw [List.length_set, hy]) ?_
    intro p hpi
    by_cases hpe : p = i
    · subst hpe
      exact M.getD_set_self _ _ _ (by omega)
    · rw [M.getD_set_ne _ _ _ _ (by omega)]
      exact hp p (by omega)
theorem W_Rall (s : ByteArray) (i : Nat) (h : s.size ≤ i) : W 256 ((R s).take i) = val s := by rw [W_all _ _ _ (by rw [R_length]; omega), W_R]
theorem refAdd (s t : ByteArray) (hs : s.size ≤ 1099511627776) (ht : t.size ≤ 1099511627776) : Ev (fun k => abacistref01_Add.f k s t) (nat (val s + val t)) := by
  unfold abacistref01_Add.f
  obtain ⟨n, hn1, hn2, hn3⟩ : ∃ n : Nat, n ≤ 1099511627776 ∧ s.size ≤ n ∧ t.size ≤ n := ⟨max s.size t.size, by omega, by omega, by omega⟩
  suffices hh : ∀ (d i : Nat) (x5 : List Int) (c : Nat), i + d = n + 1 → x5.length = i → Ok 256 x5 → c ≤ 1 →
      W 256 x5 + 256 ^ i * c = W 256 ((R s).take i) + W 256 ((R t).take i) →
      Ev (fun k => abacistref01_Add.l0 k s t x5 (c : Int) (i : Int)) (nat (val s + val t)) from
    hh (n + 1) 0 [] 0 (by omega) rfl (Ok.nil _) (by omega) (by simp [W])
  have stop : ∀ (i : Nat) (x5 : List Int), i ≤ n + 1 → x5.length = i → Ok 256 x5 → s.size ≤ i → t.size ≤ i → W 256 x5 = W 256 ((R s).take i) + W 256 ((R t).take i) →
      Ev (fun k => abacistref01_Add.l0 k s t x5 0 (i : Int)) (nat (val s + val t)) := by
    intro i x5 hi hl hk h1 h2 hw
    refine Ev.step (fun k => by rw [abacistref01_Add.l0]) ?_
    refine Ev.neg (by omega) ?_
    refine Ev.neg (by omega) ?_
    refine Ev.step (fun k => by rw [abacistref01_Add.j1]) ?_
    refine Ev.neg (by decide) ?_
    refine Ev.bind ?_ (Ev.now _)
    have := refTurned x5 hk (by omega)
    rwa [hw, W_Rall _ _ h1, W_Rall _ _ h2] at this
  intro d
  induction d with
  | zero =>
    intro i x5 c hi hl hk hc hw
    have h0 : c = 0 := by
      apply Classical.byContradiction
      intro h
      have : c = 1 := by omega
      subst this
      rw [W_Rall _ _ (by omega), W_Rall _ _ (by omega)] at hw
      have h1 := val_lt s
      have h2 := val_lt t
      have h3 : 256 ^ s.size ≤ 256 ^ n := Nat.pow_le_pow_right (by decide) hn2
      have h4 : 256 ^ t.size ≤ 256 ^ n := Nat.pow_le_pow_right (by decide) hn3
      rw [show i = n + 1 by omega, Nat.pow_succ] at hw
      omega
    subst h0
    exact stop i x5 (by omega) hl hk (by omega) (by omega) (by omega)
  | succ d ih =>
    intro i x5 c hi hl hk hc hw
    have go : Ev (fun k => abacistref01_Add.j1 k s t x5 (c : Int) (i : Int) true) (nat (val s + val t)) := by
      refine Ev.step (fun k => by rw [abacistref01_Add.j1]) ?_
      refine Ev.pos rfl ?_
      refine Ev.some (refAt s i (by omega)) ?_
      refine Ev.some (refAt t i (by omega)) ?_
      refine Ev.pos (by omega) ?_
      have d1 := (R_ok s).getD (by decide) i
      have d2 := (R_ok t).getD (by decide) i
      have e1 := W_take 256 (R s) i
      have e2 := W_take 256 (R t) i
      generalize (R s).getD i 0 = a at d1 e1 ⊢
      generalize (R t).getD i 0 = b at d2 e2 ⊢
      have hv : wrap64 (wrap64 (a + b) + (c : Int)) = ((a.toNat + b.toNat + c : Nat) : Int) := by rw [w64 (x := a + b) (by omega) (by omega), w64 (by omega) (by omega)]; omega
      rw [hv, and_i64 _ (by omega) (by omega), w64 (by omega) (by omega), show (i : Int) + 1 = ((i + 1 : Nat) : Int) by omega, show ((a.toNat + b.toNat + c : Nat) : Int) / 256 = (((a.toNat + b.toNat + c) / 256 : Nat) : Int) by omega]
      refine ih (i + 1) _ _ (by omega) (by simp [hl]) (hk.snoc (by omega) (by omega)) (by omega) ?_
      rw [W_snoc, hl, e1, e2, Nat.pow_succ, show (((a.toNat + b.toNat + c : Nat) : Int) % 256).toNat = (a.toNat + b.toNat + c) % 256 by omega]
      exact add_step _ _ _ _ _ _ _ _ _ _ hw (Nat.div_add_mod _ _).symm
    by_cases h1 : i < s.size
    · refine Ev.step (fun k => by rw [abacistref01_Add.l0]) ?_
      refine Ev.pos (by omega) ?_
      exact go
    · by_cases h2 : i < t.size
      · refine Ev.step (fun k => by rw [abacistref01_Add.l0]) ?_
        refine Ev.neg (by omega) ?_
        refine Ev.pos (by omega) ?_
        exact go
      · by_cases h3 : c = 0
        · subst h3
          exact stop i x5 (by omega) hl hk (by omega) (by omega) (by omega)
        · refine Ev.step (fun k => by rw [abacistref01_Add.l0]) ?_
          refine Ev.neg (by omega) ?_
          refine Ev.neg (by omega) ?_
          rw [show decide ((c : Int) > 0) = true from decide_eq_true (by omega)]
          exact go
theorem refSub (s t : ByteArray) (hs : s.size ≤ 1099511627776) (ht : t.size ≤ 1099511627776) : Ev (fun k => abacistref01_Sub.f k s t) (nat (val s - val t)) := by
  unfold abacistref01_Sub.f
  refine Ev.bind (refCmp s t) ?_
  by_cases hlt : val s < val t
  · refine Ev.pos (by rw [show sgn (val s) (val t) = -1 from if_pos hlt]; decide) ?_
    rw [show val s - val t = 0 by omega, nat_zero]
    exact Ev.now _
  · refine Ev.neg (by unfold sgn; rw [if_neg hlt]; split <;> decide) ?_
    obtain ⟨n, hn1, hn2, hn3, hn4⟩ : ∃ n : Nat, n ≤ 1099511627776 ∧ s.size ≤ n ∧ t.size ≤ n ∧ (n = s.size ∨ n = t.size) := ⟨max s.size t.size, by omega, by omega, by omega, by omega⟩
    suffices hh : ∀ (d i : Nat) (x5 : List Int) (c : Nat), i + d = n → x5.length = i → Ok 256 x5 → c ≤ 1 →
        W 256 x5 + W 256 ((R t).take i) = W 256 ((R s).take i) + 256 ^ i * c →
        Ev (fun k => abacistref01_Sub.l0 k s t x5 (c : Int) (i : Int)) (nat (val s - val t)) from
      hh n 0 [] 0 (by omega) rfl (Ok.nil _) (by omega) (by simp [W])
    intro d
    induction d with
    | zero =>
      intro i x5 c hi hl hk hc hw
      refine Ev.step (fun k => by rw [abacistref01_Sub.l0]) ?_
      refine Ev.neg (by omega) ?_
      rw [show decide ((i : Int) < (t.size : Int)) = false from decide_eq_false (by omega)]
      refine Ev.step (fun k => by rw [abacistref01_Sub.j1]) ?_
      refine Ev.neg (by decide) ?_
      refine Ev.bind ?_ (Ev.now _)
      rw [W_Rall _ _ (by omega), W_Rall _ _ (by omega)] at hw
      have hx := W_lt hk
      rw [hl] at hx
      have h0 : c = 0 := by
        apply Classical.byContradiction
        intro h
        have : c = 1 := by omega
        subst this
        omega
      subst h0
      have := refTurned x5 hk (by omega)
      rwa [show W 256 x5 = val s - val t by omega] at this
    | succ d ih =>
      intro i x5 c hi hl hk hc hw
      have go : Ev (fun k => abacistref01_Sub.j1 k s t x5 (c : Int) (i : Int) true) (nat (val s - val t)) := by
        refine Ev.step (fun k => by rw [abacistref01_Sub.j1]) ?_
        refine Ev.pos rfl ?_
        refine Ev.some (refAt s i (by omega)) ?_
        refine Ev.some (refAt t i (by omega)) ?_
        have d1 := (R_ok s).getD (by decide) i
        have d2 := (R_ok t).getD (by decide) i
        have e1 := W_take 256 (R s) i
        have e2 := W_take 256 (R t) i
        generalize (R s).getD i 0 = a at d1 e1 ⊢
        generalize (R t).getD i 0 = b at d2 e2 ⊢
        rw [w64 (x := a - b) (by omega) (by omega), w64 (x := a - b - (c : Int)) (by omega) (by omega), w64 (x := a - b - (c : Int) + 256) (by omega) (by omega), w64 (x := (i : Int) + 1) (by omega) (by omega), show (i : Int) + 1 = ((i + 1 : Nat) : Int) by omega]
        by_cases hneg : a - b - (c : Int) < 0
        · refine Ev.pos hneg ?_
          refine Ev.pos (by omega) ?_
          refine ih (i + 1) _ 1 (by omega) (by simp [hl]) (hk.snoc (by omega) (by omega)) (by omega) ?_
          rw [W_snoc, hl, e1, e2, Nat.pow_succ]
          exact sub_step _ _ _ _ _ _ _ _ _ _ hw (by omega)
        · refine Ev.neg hneg ?_
          refine Ev.pos (by omega) ?_
          refine ih (i + 1) _ 0 (by omega) (by simp [hl]) (hk.snoc (by omega) (by omega)) (by omega) ?_
          rw [W_snoc, hl, e1, e2, Nat.pow_succ]
          exact sub_step _ _ _ _ _ _ _ _ _ _ hw (by omega)
      refine Ev.step (fun k => by rw [abacistref01_Sub.l0]) ?_
      by_cases h1 : i < s.size
      · refine Ev.pos (by omega) ?_
        exact go
      · refine Ev.neg (by omega) ?_
        rw [show decide ((i : Int) < (t.size : Int)) = true from decide_eq_true (by omega)]
        exact go
theorem refMulRow (s t : ByteArray) (x5 : List Int) (i : Nat) (hi : i < s.size) (hst : s.size < 9223372036854775807) (htt : t.size < 9223372036854775807) (hn : x5.length = s.size + t.size) (hbig : x5.length ≤ 35184372088832) (hk : Ok 256 x5) (hz : x5.getD (i + t.size) 0 = 0)
    (hx : ∃ u, W 256 x5 = u * val t) (r : ByteArray)
    (h : ∀ y : List Int, y.length = x5.length → Ok 256 y → W 256 y = W 256 x5 + 256 ^ i * ((R s).getD i 0).toNat * val t → Ev (fun k => abacistref01_Mul.l0 k s t y ((i + 1 : Nat) : Int)) r) :
    Ev (fun k => abacistref01_Mul.l1 k s t x5 (i : Int) 0 ((R s).getD i 0) 0) r := by
  have dA := (R_ok s).getD (by decide) i
  suffices hh : ∀ (d j : Nat) (y : List Int) (c : Nat), j + d = t.size → y.length = x5.length → Ok 256 y → c < 256 → y.getD (i + t.size) 0 = 0 →
      Keep (W 256 y + 256 ^ (i + j) * c = W 256 x5 + ((R s).getD i 0).toNat * 256 ^ i * W 256 ((R t).take j)) →
      Ev (fun k => abacistref01_Mul.l1 k s t y (i : Int) (c : Int) ((R s).getD i 0) (j : Int)) r from
    hh t.size 0 x5 0 (by omega) rfl hk (by omega) hz ⟨by rw [Nat.mul_zero, List.take_zero, W, Nat.mul_zero]⟩
  intro d
  induction d with
  | zero =>
    intro j y c hj hl hky hc h0 hw
    refine Ev.step (fun k => by rw [abacistref01_Mul.l1]) ?_
    refine Ev.neg (by omega) ?_
    rw [w64_add _ _ (by omega), w64_succ _ (by omega), Int.toNat_natCast]
    refine Ev.pos (by omega) ?_
    refine Ev.pos (by omega) ?_
    refine h _ (by rw [List.length_set, hl]) (hky.set _ (by omega) (by omega)) ?_
    have hs := W_set' 256 y (i + t.size) c (by omega)
    rw [h0] at hs
    have : j = t.size := by omega
    subst this
    have hw := hw.out
    rw [W_Rall _ _ (Nat.le_refl _), Nat.pow_add] at hw
    rw [Nat.pow_add] at hs
    exact mul_row 256 _ _ _ _ _ _ _ _ hw hs hx
  | succ d ih =>
    intro j y c hj hl hky hc h0 hw
    refine Ev.step (fun k => by rw [abacistref01_Mul.l1]) ?_
    refine Ev.pos (by omega) ?_
    rw [w64_add _ _ (by omega)]
    refine Ev.pos (by omega) ?_
    refine Ev.pos (by omega) ?_
    refine Ev.some (refAt t j (by omega)) ?_
    rw [rd_nat]
    have dZ := (R_ok t).getD (by decide) j
    have dy := hky.getD (by decide) (i + j)
    have eZ := Keep.mk (W_take 256 (R t) j)
    obtain ⟨a, ha⟩ : ∃ a : Nat, (R s).getD i 0 = (a : Int) := ⟨((R s).getD i 0).toNat, by omega⟩
    obtain ⟨b, hb⟩ : ∃ b : Nat, (R t).getD j 0 = (b : Int) := ⟨((R t).getD j 0).toNat, by omega⟩
    obtain ⟨u, hu⟩ : ∃ u : Nat, y.getD (i + j) 0 = (u : Int) := ⟨(y.getD (i + j) 0).toNat, by omega⟩
    rw [ha] at dA
    rw [hb] at dZ
    rw [hu] at dy
    have hm := le_mul_pred (a := a) (b := b) (B := 256) (by omega) (by omega)
    have hv : Keep (wrap64 (wrap64 (y.getD (i + j) 0 + wrap64 ((R s).getD i 0 * (R t).getD j 0)) + (c : Int)) = ((a * b + u + c : Nat) : Int)) := by
      constructor
      rw [ha, hb, hu, ← Int.natCast_mul]
      generalize a * b = ab at hm ⊢
      rw [w64 (x := (ab : Int)) (by omega) (by omega), w64 (x := (u : Int) + (ab : Int)) (by omega) (by omega), w64 (by omega) (by omega)]
      omega
    have hV2 : a * b + u + c < 65536 := by generalize a * b = ab at hm ⊢; omega
    rw [hv.out, and_i64 _ (by omega) (by omega), Int.toNat_natCast, w64_succ _ (by omega)]
    have hV := Nat.div_add_mod (a * b + u + c) 256
    have hs := Keep.mk (W_set' 256 y (i + j) ((a * b + u + c) % 256) (by omega))
    generalize hVV : a * b + u + c = V at hV hV2 hs ⊢
    rw [show (V : Int) % 256 = ((V % 256 : Nat) : Int) by omega, show (V : Int) / 256 = ((V / 256 : Nat) : Int) by omega]
    refine ih (j + 1) _ _ (by omega) (by rw [List.length_set, hl]) (hky.set _ (by omega) (by omega)) (by omega) ?_ ⟨?_⟩
    · rw [M.getD_set_ne _ _ _ _ (by omega), h0]
    · rw [eZ.out, hb, Int.toNat_natCast, ← Nat.add_assoc, Nat.pow_succ]
      have hs := hs.out
      rw [hu, Int.toNat_natCast] at hs
      exact mul_step _ _ _ _ _ _ _ _ b u _ _ _ _ hw.out (Nat.pow_add _ _ _) hs (by rw [ha, Int.toNat_natCast]; omega)
theorem refMul (s t : ByteArray) (hs : s.size ≤ 1099511627776) (ht : t.size ≤ 1099511627776) : Ev (fun k => abacistref01_Mul.f k s t) (nat (val s * val t)) := by
  unfold abacistref01_Mul.f
  rw [w64_add _ _ (by omega), Int.toNat_natCast]
  refine Ev.pos (by omega) ?_
  refine Ev.pos (by omega) ?_
  suffices hh : ∀ (d i : Nat) (x5 : List Int), i + d = s.size → x5.length = s.size + t.size → Ok 256 x5 → Keep (W 256 x5 = W 256 ((R s).take i) * val t) →
      Ev (fun k => abacistref01_Mul.l0 k s t x5 (i : Int)) (nat (val s * val t)) from
    hh s.size 0 _ (by omega) (by rw [List.length_replicate]) (Ok.zeros (by decide) _) ⟨by rw [W_zeros, List.take_zero, W, Nat.zero_mul]⟩
  intro d
  induction d with
  | zero =>
    intro i x5 hi hl hk hw
    refine Ev.step (fun k => by rw [abacistref01_Mul.l0]) ?_
    refine Ev.neg (by omega) ?_
    refine Ev.bind ?_ (Ev.now _)
    have := refTurned x5 hk (by omega)
    rwa [hw.out, W_Rall _ _ (by omega)] at this
  | succ d ih =>
    intro i x5 hi hl hk hw
    refine Ev.step (fun k => by rw [abacistref01_Mul.l0]) ?_
    refine Ev.pos (by omega) ?_
    refine Ev.some (refAt s i (by omega)) ?_
    have hlt : W 256 x5 < 256 ^ (i + t.size) := by
      rw [hw.out, Nat.pow_add]
      have h1 := W_lt ((R_ok s).take i)
      rw [List.length_take, Nat.min_eq_left (by rw [R_length]; omega)] at h1
      exact Nat.mul_lt_mul'' h1 (val_lt t)
    refine refMulRow s t x5 i (by omega) (by omega) (by omega) hl (by omega) hk (getD_zero_of_lt (by decide) hk _ (by omega) hlt) ⟨_, hw.out⟩ _ ?_
    intro y hyl hyk hyw
    refine ih (i + 1) y (by omega) (by omega) hyk ⟨?_⟩
    rw [hyw, hw.out, W_take, Nat.add_mul]
end Go.Proofs.YtcdcijhfjiahkaaDoorR.P
