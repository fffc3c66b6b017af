/- What the printed functions of the package of naturals and of its reference answer. -/
import Derived.Test.YtcdcijhfjiahkaaDoorRA3
import Derived.Test.YtcdcijhfjiahkaaDoorRA4
import Derived.Test.YtcdcijhfjiahkaaDoorRPbase
namespace Go.Proofs.YtcdcijhfjiahkaaDoorR.AP
open Go.RowKit Go.Proofs.YtcdcijhfjiahkaaDoorRW.PrintWords Go.Proofs.YtcdcijhfjiahkaaDoorRW.PrintMore Go.Proofs.YtcdcijhfjiahkaaDoorR.M Go.Proofs.YtcdcijhfjiahkaaDoorR.P Go.Proofs.YtcdcijhfjiahkaaDoorR.A
set_option linter.unusedVariables false
set_option linter.unusedSimpArgs false
set_option maxHeartbeats 1000000
theorem refTrim (s : ByteArray) : Ev (fun k => abacistref01_Trim.f k s) (nat (val s)) := ltrim abacistref01_Trim.l0 (fun k x0 => by rw [abacistref01_Trim.l0]) s
theorem refSmallRow (x0 : ByteArray) (h8 : x0.size ≤ 8) : Ev (fun k => abacistref01_Small.l0 k x0 0 0) ((val x0 : Int), true) := by
  suffices hh : ∀ (d i : Nat), i + d = x0.size → Ev (fun k => abacistref01_Small.l0 k x0 ((valL ((L x0).take i) : Nat) : Int) (i : Int)) ((val x0 : Int), true) from
    hh x0.size 0 (by omega)
  intro d
  induction d with
  | zero =>
    intro i hi
    refine Ev.step (fun k => by rw [abacistref01_Small.l0]) ?_
    refine Ev.neg (by omega) ?_
    rw [List.take_of_length_le (by rw [L_length]; omega)]
    exact Ev.now _
  | succ d ih =>
    intro i hi
    refine Ev.step (fun k => by rw [abacistref01_Small.l0]) ?_
    refine Ev.pos (by omega) ?_
    refine Ev.pos (by omega) ?_
    rw [bt_L, w64 (by omega) (by omega)]
    have hli : i < (L x0).length := by rw [L_length]; omega
    have hg : (L x0).getD i 0 = (L x0)[i] := by rw [List.getD_eq_getElem?_getD, List.getElem?_eq_getElem hli]; rfl
    have hb : (L x0)[i] < 256 := L_lt x0 _ (List.getElem_mem hli)
    have ht : (L x0).take (i + 1) = (L x0).take i ++ [(L x0)[i]] := List.take_succ_eq_append_getElem hli
    have hv : valL ((L x0).take i) < 256 ^ 7 := by
      have := valL_lt ((L x0).take i) (fun b hb => L_lt x0 b (List.mem_of_mem_take hb))
      have h2 : 256 ^ ((L x0).take i).length ≤ 256 ^ 7 := Nat.pow_le_pow_right (by decide) (by rw [List.length_take]; omega)
      omega
    rw [hg, u64, u64, or_u64 _ _ 8 (by omega) (by omega) (by omega) (by omega) (by omega) (by omega)]
    have := ih (i + 1) (by omega)
    rw [ht, valL_snoc] at this
    have e1 : ((valL ((L x0).take i) : Nat) : Int) * 256 % 18446744073709551616 + (((L x0)[i] : Nat) : Int) % 18446744073709551616 = ((valL ((L x0).take i) * 256 + (L x0)[i] : Nat) : Int) := by omega
    rw [e1]
    exact this
theorem refSmall (s : ByteArray) : Ev (fun k => abacistref01_Small.f k s) (small (val s)) := by
  unfold abacistref01_Small.f
  refine Ev.bind (refTrim s) ?_
  generalize val s = n
  by_cases h : n < 18446744073709551616
  · have h8 : (nat n).size ≤ 8 := nat_size_le (by omega)
    rw [small_lt h]
    refine Ev.neg (by omega) ?_
    have := refSmallRow (nat n) h8
    rwa [val_nat] at this
  · have h8 : ¬ (nat n).size ≤ 8 := by
      intro h8
      have := val_lt (nat n)
      rw [val_nat] at this
      have h2 : 256 ^ (nat n).size ≤ 256 ^ 8 := Nat.pow_le_pow_right (by decide) h8
      omega
    rw [small_ge h]
    refine Ev.pos (by omega) ?_
    exact Ev.now _
theorem refOf (n : Nat) (h : n < 18446744073709551616) : Ev (fun k => abacistref01_Of.f k (n : Int)) (nat n) := by
  unfold abacistref01_Of.f
  suffices hh : ∀ (d i : Nat) (s : ByteArray), i + d = 8 → s.size = i → val s = n % 256 ^ i → Ev (fun k => abacistref01_Of.l0 k ((n / 256 ^ i : Nat) : Int) s (i : Int)) (nat n) by
    have := hh 8 0 ⟨#[]⟩ rfl rfl (by rw [Nat.pow_zero, Nat.mod_one]; rfl)
    simpa using this
  intro d
  induction d with
  | zero =>
    intro i s hi hs hv
    refine Ev.step (fun k => by rw [abacistref01_Of.l0]) ?_
    refine Ev.neg (by omega) ?_
    have := refTrim s
    rw [hv, show i = 8 by omega, show n % 256 ^ 8 = n by omega] at this
    exact Ev.bind this (Ev.now _)
  | succ d ih =>
    intro i s hi hs hv
    refine Ev.step (fun k => by rw [abacistref01_Of.l0]) ?_
    refine Ev.pos (by omega) ?_
    have hle : n / 256 ^ i ≤ n := Nat.div_le_self _ _
    have hge : 0 ≤ ((n / 256 ^ i : Nat) : Int) := Int.natCast_nonneg _
    have hle' : ((n / 256 ^ i : Nat) : Int) ≤ (n : Int) := Int.ofNat_le.2 hle
    rw [and_u64 _ (by omega) (by omega), w64 (x := ((n / 256 ^ i : Nat) : Int) % 256) (by omega) (by omega), w64 (x := (i : Int) + 1) (by omega) (by omega)]
    refine Ev.some (a := strOfNums [((n / 256 ^ i : Nat) : Int) % 256 % 256]) rfl ?_
    have hL : L (strOfNums [((n / 256 ^ i : Nat) : Int) % 256 % 256]) = [n / 256 ^ i % 256] := by
      rw [L_nums _ (by intro x hx; simp only [List.mem_singleton] at hx; subst hx; omega)]
      simp only [List.map_cons, List.map_nil]
      congr 1
      omega
    have hsz : (strOfNums [((n / 256 ^ i : Nat) : Int) % 256 % 256]).size = 1 := by rw [← L_length, hL]; rfl
    refine Ev.pos (by omega) ?_
    have := ih (i + 1) (strOfNums [((n / 256 ^ i : Nat) : Int) % 256 % 256] ++ s) (by omega) (by rw [← L_length, L_append, List.length_append, hL, L_length, hs]; simp; omega) (by
      unfold val
      rw [L_append, hL, List.singleton_append, valL_cons, L_length, hs]
      have : valL (L s) = n % 256 ^ i := hv
      rw [this, Nat.pow_succ, Nat.mod_mul, Nat.mul_comm]
      omega)
    have e : ((n / 256 ^ i : Nat) : Int) / 256 = ((n / 256 ^ (i + 1) : Nat) : Int) := by
      rw [Nat.pow_succ, ← Nat.div_div_eq_div_mul]; omega
    rw [e]
    exact this
theorem refCmpJ (a b : Nat) (x : Bool) (h : x = decide (a < b)) : Ev (fun k => abacistref01_Cmp.j0 k (nat a) (nat b) x) (sgn a b) := by
  refine Ev.step (fun k => by rw [abacistref01_Cmp.j0]) ?_
  by_cases hl : a < b
  · refine Ev.pos (by rw [h]; exact decide_eq_true hl) ?_
    rw [show sgn a b = -1 from if_pos hl]
    exact Ev.now _
  · refine Ev.neg (by rw [h, decide_eq_false hl]; decide) ?_
    by_cases he : a = b
    · refine Ev.pos (nat_toList.2 he) ?_
      rw [show sgn a b = 0 by unfold sgn; rw [if_neg hl, if_pos he]]
      exact Ev.now _
    · refine Ev.neg (fun h => he (nat_toList.1 h)) ?_
      rw [show sgn a b = 1 by unfold sgn; rw [if_neg hl, if_neg he]]
      exact Ev.now _
theorem refCmp (s t : ByteArray) : Ev (fun k => abacistref01_Cmp.f k s t) (sgn (val s) (val t)) := by
  unfold abacistref01_Cmp.f
  refine Ev.bind (refTrim s) ?_
  refine Ev.bind (refTrim t) ?_
  generalize val s = a
  generalize val t = b
  by_cases h : (nat a).size < (nat b).size
  · refine Ev.pos (by omega) ?_
    exact refCmpJ a b true (decide_eq_true (nat_len_lt h)).symm
  · refine Ev.neg (by omega) ?_
    by_cases h2 : (nat a).size = (nat b).size
    · refine Ev.pos (by omega) ?_
      refine refCmpJ a b _ ?_
      rw [bytesLess_val _ _ (by rw [toList_eq, toList_eq, data_length, data_length, h2]), toList_eq, toList_eq]
      show decide (valL (L (nat a)) < valL (L (nat b))) = _
      have e1 : valL (L (nat a)) = a := val_nat a
      have e2 : valL (L (nat b)) = b := val_nat b
      rw [e1, e2]
    · refine Ev.neg (by omega) ?_
      exact refCmpJ a b false (decide_eq_false (fun hl => by have := nat_len_lt (a := b) (b := a) (by omega); omega)).symm
theorem refAt (s : ByteArray) (i : Nat) (hs : s.size < 9223372036854775807) : abacistref01_at.f s (i : Int) = some ((R s).getD i 0) := by
  unfold abacistref01_at.f
  by_cases h : i < s.size
  · have e : wrap64 (wrap64 ((s.size : Int) - 1) - (i : Int)) = ((s.size - 1 - i : Nat) : Int) := by rw [w64 (x := (s.size : Int) - 1) (by omega) (by omega), w64 (by omega) (by omega)]; omega
    rw [if_neg (by omega), e, if_pos (by omega), if_pos (by omega), ← R_getD s i h]
    have := (R_ok s).getD (by decide) i
    rw [w64 (by omega) (by omega)]
  · rw [if_pos (by omega), List.getD_eq_getElem?_getD, List.getElem?_eq_none (by rw [R_length]; omega)]
    rfl
theorem refTurned (l : List Int) (hk : Ok 256 l) (hl : l.length ≤ 281474976710656) : Ev (fun k => abacistref01_turned.f k l) (nat (W 256 l)) := by
  unfold abacistref01_turned.f
  refine Ev.pos (by omega) ?_
  refine Ev.pos (by omega) ?_
  rw [Int.toNat_natCast]
  suffices hh : ∀ (d i : Nat) (y : List Int), i + d = l.length → y.length = l.length → (∀ p, p < i → y.getD (l.length - 1 - p) 0 = l.getD p 0) →
      Ev (fun k => abacistref01_turned.l0 k l y (i : Int)) (nat (W 256 l)) from
    hh l.length 0 _ (by omega) (by rw [List.length_replicate]) (fun p hp => absurd hp (by omega))
  intro d
  induction d with
  | zero =>
    intro i y hi hy hp
    refine Ev.step (fun k => by rw [abacistref01_turned.l0]) ?_
    refine Ev.neg (by omega) ?_
    refine Ev.bind ?_ (Ev.now _)
    have hrev : y = l.reverse := by
      apply List.ext_getElem
      · rw [List.length_reverse, hy]
      · intro p h1 h2
        have := hp (l.length - 1 - p) (by omega)
        rw [show l.length - 1 - (l.length - 1 - p) = p by omega, List.getD_eq_getElem?_getD, List.getElem?_eq_getElem h1, List.getD_eq_getElem?_getD, List.getElem?_eq_getElem (by omega)] at this
        simp only [Option.getD_some] at this
        rw [this, List.getElem_reverse]
    have hok : Ok 256 l.reverse := fun x hx => hk x (by simpa using hx)
    have hv : val (strOfNums y) = W 256 l := by
      unfold val
      rw [hrev, L_nums _ hok, W_revBytes l hk]
    have := refTrim (strOfNums y)
    rwa [hv] at this
  | succ d ih =>
    intro i y hi hy hp
    refine Ev.step (fun k => by rw [abacistref01_turned.l0]) ?_
    have dl := hk.getD (by decide) i
    rw [w64_back _ _ (by omega) (by omega), Int.toNat_natCast, rd_nat, w64_succ _ (by omega), show l.getD i 0 % 256 = l.getD i 0 by omega]
    refine Ev.pos (by omega) ?_
    refine Ev.pos (by omega) ?_
    refine Ev.pos (by omega) ?_
    refine Ev.pos (by omega) ?_
    refine ih (i + 1) _ (by omega) (by rw [List.length_set, hy]) ?_
    intro p hpi
    by_cases hpe : p = i
    · subst hpe
      exact M.getD_set_self _ _ _ (by omega)
    · rw [M.getD_set_ne _ _ _ _ (by omega)]
      exact hp p (by omega)
theorem refSub (s t : ByteArray) (hs : s.size ≤ 1099511627776) (ht : t.size ≤ 1099511627776) : Ev (fun k => abacistref01_Sub.f k s t) (nat (val s - val t)) := by
  unfold abacistref01_Sub.f
  refine Ev.bind (refCmp s t) ?_
  by_cases hlt : val s < val t
  · refine Ev.pos (by rw [show sgn (val s) (val t) = -1 from if_pos hlt]; decide) ?_
    rw [show val s - val t = 0 by omega, nat_zero]
    exact Ev.now _
  · refine Ev.neg (by unfold sgn; rw [if_neg hlt]; split <;> decide) ?_
    obtain ⟨n, hn1, hn2, hn3, hn4⟩ : ∃ n : Nat, n ≤ 1099511627776 ∧ s.size ≤ n ∧ t.size ≤ n ∧ (n = s.size ∨ n = t.size) := ⟨max s.size t.size, by omega, by omega, by omega, by omega⟩
    suffices hh : ∀ (d i : Nat) (x5 : List Int) (c : Nat), i + d = n → x5.length = i → Ok 256 x5 → c ≤ 1 →
        W 256 x5 + W 256 ((R t).take i) = W 256 ((R s).take i) + 256 ^ i * c →
        Ev (fun k => abacistref01_Sub.l0 k s t x5 (c : Int) (i : Int)) (nat (val s - val t)) from
      hh n 0 [] 0 (by omega) rfl (Ok.nil _) (by omega) (by simp [W])
    intro d
    induction d with
    | zero =>
      intro i x5 c hi hl hk hc hw
      refine Ev.step (fun k => by rw [abacistref01_Sub.l0]) ?_
      refine Ev.neg (by omega) ?_
      rw [show decide ((i : Int) < (t.size : Int)) = false from decide_eq_false (by omega)]
      refine Ev.step (fun k => by rw [abacistref01_Sub.j1]) ?_
      refine Ev.neg (by decide) ?_
      refine Ev.bind ?_ (Ev.now _)
      rw [W_Rall _ _ (by omega), W_Rall _ _ (by omega)] at hw
      have hx := W_lt hk
      rw [hl] at hx
      have h0 : c = 0 := by
        apply Classical.byContradiction
        intro h
        have : c = 1 := by omega
        subst this
        omega
      subst h0
      have := refTurned x5 hk (by omega)
      rwa [show W 256 x5 = val s - val t by omega] at this
    | succ d ih =>
      intro i x5 c hi hl hk hc hw
      have go : Ev (fun k => abacistref01_Sub.j1 k s t x5 (c : Int) (i : Int) true) (nat (val s - val t)) := by
        refine Ev.step (fun k => by rw [abacistref01_Sub.j1]) ?_
        refine Ev.pos rfl ?_
        refine Ev.some (refAt s i (by omega)) ?_
        refine Ev.some (refAt t i (by omega)) ?_
        have d1 := (R_ok s).getD (by decide) i
        have d2 := (R_ok t).getD (by decide) i
        have e1 := W_take 256 (R s) i
        have e2 := W_take 256 (R t) i
        generalize (R s).getD i 0 = a at d1 e1 ⊢
        generalize (R t).getD i 0 = b at d2 e2 ⊢
        rw [w64 (x := a - b) (by omega) (by omega), w64 (x := a - b - (c : Int)) (by omega) (by omega), w64 (x := a - b - (c : Int) + 256) (by omega) (by omega), w64 (x := (i : Int) + 1) (by omega) (by omega), show (i : Int) + 1 = ((i + 1 : Nat) : Int) by omega]
        by_cases hneg : a - b - (c : Int) < 0
        · refine Ev.pos hneg ?_
          refine Ev.pos (by omega) ?_
          refine ih (i + 1) _ 1 (by omega) (by simp [hl]) (hk.snoc (by omega) (by omega)) (by omega) ?_
          rw [W_snoc, hl, e1, e2, Nat.pow_succ]
          exact sub_step _ _ _ _ _ _ _ _ _ _ hw (by omega)
        · refine Ev.neg hneg ?_
          refine Ev.pos (by omega) ?_
          refine ih (i + 1) _ 0 (by omega) (by simp [hl]) (hk.snoc (by omega) (by omega)) (by omega) ?_
          rw [W_snoc, hl, e1, e2, Nat.pow_succ]
          exact sub_step _ _ _ _ _ _ _ _ _ _ hw (by omega)
      refine Ev.step (fun k => by rw [abacistref01_Sub.l0]) ?_
      by_cases h1 : i < s.size
      · refine Ev.pos (by omega) ?_
        exact go
      · refine Ev.neg (by omega) ?_
        rw [show decide ((i : Int) < (t.size : Int)) = true from decide_eq_true (by omega)]
        exact go
theorem refMulRow (s t : ByteArray) (x5 : List Int) (i : Nat) (hi : i < s.size) (hst : s.size < 9223372036854775807) (htt : t.size < 9223372036854775807) (hn : x5.length = s.size + t.size) (hbig : x5.length ≤ 35184372088832) (hk : Ok 256 x5) (hz : x5.getD (i + t.size) 0 = 0)
    (hx : ∃ u, W 256 x5 = u * val t) (r : ByteArray)
    (h : ∀ y : List Int, y.length = x5.length → Ok 256 y → W 256 y = W 256 x5 + 256 ^ i * ((R s).getD i 0).toNat * val t → Ev (fun k => abacistref01_Mul.l0 k s t y ((i + 1 : Nat) : Int)) r) :
    Ev (fun k => abacistref01_Mul.l1 k s t x5 (i : Int) 0 ((R s).getD i 0) 0) r := by
  have dA := (R_ok s).getD (by decide) i
  suffices hh : ∀ (d j : Nat) (y : List Int) (c : Nat), j + d = t.size → y.length = x5.length → Ok 256 y → c < 256 → y.getD (i + t.size) 0 = 0 →
      Keep (W 256 y + 256 ^ (i + j) * c = W 256 x5 + ((R s).getD i 0).toNat * 256 ^ i * W 256 ((R t).take j)) →
      Ev (fun k => abacistref01_Mul.l1 k s t y (i : Int) (c : Int) ((R s).getD i 0) (j : Int)) r from
    hh t.size 0 x5 0 (by omega) rfl hk (by omega) hz ⟨by rw [Nat.mul_zero, List.take_zero, W, Nat.mul_zero]⟩
  intro d
  induction d with
  | zero =>
    intro j y c hj hl hky hc h0 hw
    refine Ev.step (fun k => by rw [abacistref01_Mul.l1]) ?_
    refine Ev.neg (by omega) ?_
    rw [w64_add _ _ (by omega), w64_succ _ (by omega), Int.toNat_natCast]
    refine Ev.pos (by omega) ?_
    refine Ev.pos (by omega) ?_
    refine h _ (by rw [List.length_set, hl]) (hky.set _ (by omega) (by omega)) ?_
    have hs := W_set' 256 y (i + t.size) c (by omega)
    rw [h0] at hs
    have : j = t.size := by omega
    subst this
    have hw := hw.out
    rw [W_Rall _ _ (Nat.le_refl _), Nat.pow_add] at hw
    rw [Nat.pow_add] at hs
    exact mul_row 256 _ _ _ _ _ _ _ _ hw hs hx
  | succ d ih =>
    intro j y c hj hl hky hc h0 hw
    refine Ev.step (fun k => by rw [abacistref01_Mul.l1]) ?_
    refine Ev.pos (by omega) ?_
    rw [w64_add _ _ (by omega)]
    refine Ev.pos (by omega) ?_
    refine Ev.pos (by omega) ?_
    refine Ev.some (refAt t j (by omega)) ?_
    rw [rd_nat]
    have dZ := (R_ok t).getD (by decide) j
    have dy := hky.getD (by decide) (i + j)
    have eZ := Keep.mk (W_take 256 (R t) j)
    obtain ⟨a, ha⟩ : ∃ a : Nat, (R s).getD i 0 = (a : Int) := ⟨((R s).getD i 0).toNat, by omega⟩
    obtain ⟨b, hb⟩ : ∃ b : Nat, (R t).getD j 0 = (b : Int) := ⟨((R t).getD j 0).toNat, by omega⟩
    obtain ⟨u, hu⟩ : ∃ u : Nat, y.getD (i + j) 0 = (u : Int) := ⟨(y.getD (i + j) 0).toNat, by omega⟩
    rw [ha] at dA
    rw [hb] at dZ
    rw [hu] at dy
    have hm := le_mul_pred (a := a) (b := b) (B := 256) (by omega) (by omega)
    have hv : Keep (wrap64 (wrap64 (y.getD (i + j) 0 + wrap64 ((R s).getD i 0 * (R t).getD j 0)) + (c : Int)) = ((a * b + u + c : Nat) : Int)) := by
      constructor
      rw [ha, hb, hu, ← Int.natCast_mul]
      generalize a * b = ab at hm ⊢
      rw [w64 (x := (ab : Int)) (by omega) (by omega), w64 (x := (u : Int) + (ab : Int)) (by omega) (by omega), w64 (by omega) (by omega)]
      omega
    have hV2 : a * b + u + c < 65536 := by generalize a * b = ab at hm ⊢; omega
    rw [hv.out, and_i64 _ (by omega) (by omega), Int.toNat_natCast, w64_succ _ (by omega)]
    have hV := Nat.div_add_mod (a * b + u + c) 256
    have hs := Keep.mk (W_set' 256 y (i + j) ((a * b + u + c) % 256) (by omega))
    generalize hVV : a * b + u + c = V at hV hV2 hs ⊢
    rw [show (V : Int) % 256 = ((V % 256 : Nat) : Int) by omega, show (V : Int) / 256 = ((V / 256 : Nat) : Int) by omega]
    refine ih (j + 1) _ _ (by omega) (by rw [List.length_set, hl]) (hky.set _ (by omega) (by omega)) (by omega) ?_ ⟨?_⟩
    · rw [M.getD_set_ne _ _ _ _ (by omega), h0]
    · rw [eZ.out, hb, Int.toNat_natCast, ← Nat.add_assoc, Nat.pow_succ]
      have hs := hs.out
      rw [hu, Int.toNat_natCast] at hs
      exact mul_step _ _ _ _ _ _ _ _ b u _ _ _ _ hw.out (Nat.pow_add _ _ _) hs (by rw [ha, Int.toNat_natCast]; omega)
theorem refMul (s t : ByteArray) (hs : s.size ≤ 1099511627776) (ht : t.size ≤ 1099511627776) : Ev (fun k => abacistref01_Mul.f k s t) (nat (val s * val t)) := by
  unfold abacistref01_Mul.f
  rw [w64_add _ _ (by omega), Int.toNat_natCast]
  refine Ev.pos (by omega) ?_
  refine Ev.pos (by omega) ?_
  suffices hh : ∀ (d i : Nat) (x5 : List Int), i + d = s.size → x5.length = s.size + t.size → Ok 256 x5 → Keep (W 256 x5 = W 256 ((R s).take i) * val t) →
      Ev (fun k => abacistref01_Mul.l0 k s t x5 (i : Int)) (nat (val s * val t)) from
    hh s.size 0 _ (by omega) (by rw [List.length_replicate]) (Ok.zeros (by decide) _) ⟨by rw [W_zeros, List.take_zero, W, Nat.zero_mul]⟩
  intro d
  induction d with
  | zero =>
    intro i x5 hi hl hk hw
    refine Ev.step (fun k => by rw [abacistref01_Mul.l0]) ?_
    refine Ev.neg (by omega) ?_
    refine Ev.bind ?_ (Ev.now _)
    have := refTurned x5 hk (by omega)
    rwa [hw.out, W_Rall _ _ (by omega)] at this
  | succ d ih =>
    intro i x5 hi hl hk hw
    refine Ev.step (fun k => by rw [abacistref01_Mul.l0]) ?_
    refine Ev.pos (by omega) ?_
    refine Ev.some (refAt s i (by omega)) ?_
    have hlt : W 256 x5 < 256 ^ (i + t.size) := by
      rw [hw.out, Nat.pow_add]
      have h1 := W_lt ((R_ok s).take i)
      rw [List.length_take, Nat.min_eq_left (by rw [R_length]; omega)] at h1
      exact Nat.mul_lt_mul'' h1 (val_lt t)
    refine refMulRow s t x5 i (by omega) (by omega) (by omega) hl (by omega) hk (getD_zero_of_lt (by decide) hk _ (by omega) hlt) ⟨_, hw.out⟩ _ ?_
    intro y hyl hyk hyw
    refine ih (i + 1) y (by omega) (by omega) hyk ⟨?_⟩
    rw [hyw, hw.out, W_take, Nat.add_mul]
end Go.Proofs.YtcdcijhfjiahkaaDoorR.AP
