/- What the printed functions of the reference of quotients, and of digits, answer. -/
import Derived.Test.YtcdcijhfjiahkaaDoorRA4
import Derived.Test.YtcdcijhfjiahkaaDoorRAPnum
import Derived.Lib.ItoaNum
namespace Go.Proofs.YtcdcijhfjiahkaaDoorR.AP
open Go.RowKit Go.Proofs.YtcdcijhfjiahkaaDoorRW.PrintWords Go.Proofs.YtcdcijhfjiahkaaDoorRW.PrintMore Go.Proofs.YtcdcijhfjiahkaaDoorR.M Go.Proofs.YtcdcijhfjiahkaaDoorR.P Go.Proofs.YtcdcijhfjiahkaaDoorR.A
set_option linter.unusedVariables false
set_option linter.unusedSimpArgs false
set_option maxHeartbeats 1000000

theorem L_byte (b : Int) (h0 : 0 ≤ b) (h1 : b < 256) : L (strOfNums [b % 256]) = [b.toNat] := by
  rw [L_nums _ (by intro x hx; simp only [List.mem_singleton] at hx; subst hx; omega)]
  simp only [List.map_cons, List.map_nil]
  congr 1
  omega
theorem val_byte (b : Int) (h0 : 0 ≤ b) (h1 : b < 256) : val (strOfNums [b % 256]) = b.toNat := by
  unfold val
  rw [L_byte b h0 h1]
  simp [valL]
theorem size_byte (b : Int) (h0 : 0 ≤ b) (h1 : b < 256) : (strOfNums [b % 256]).size = 1 := by rw [← L_length, L_byte b h0 h1]; rfl
theorem refDigit (t : ByteArray) (b n : Nat) (hb : val t = b) (h0 : 0 < b) (hn : n < 256 * b) (ht : t.size ≤ 1099511627000) (hs : (nat n).size ≤ 1099511627776) : Ev (fun k => abacistref02_digit.f k (nat n) t) (((n / b : Nat) : Int), nat (n % b)) := by
  unfold abacistref02_digit.f
  have hc := refCmp (nat n) t
  rw [val_nat, hb] at hc
  refine Ev.bind hc ?_
  by_cases hlt : n < b
  · refine Ev.pos (by rw [show sgn n b = -1 from if_pos hlt]; decide) ?_
    rw [Nat.div_eq_of_lt hlt, Nat.mod_eq_of_lt hlt]
    exact Ev.now _
  · refine Ev.neg (by unfold sgn; rw [if_neg hlt]; split <;> decide) ?_
    suffices hh : ∀ (e m q : Nat), e ≤ 8 → n = q * b + m → m < 2 ^ e * b → m ≤ n → q ≤ 256 →
        Ev (fun k => abacistref02_digit.l0 k (nat m) t (q : Int) ((2 ^ e / 2 : Nat) : Int)) (((n / b : Nat) : Int), nat (n % b)) from
      hh 8 n 0 (by omega) (by omega) (by omega) (by omega) (by omega)
    intro e
    induction e with
    | zero =>
      intro m q he hq hm _ hq2
      refine Ev.step (fun k => by rw [abacistref02_digit.l0]) ?_
      refine Ev.neg (by decide) ?_
      have h1 : n / b = q := by
        rw [hq, Nat.add_comm, Nat.add_mul_div_right _ _ h0, Nat.div_eq_of_lt (by omega)]
        omega
      have h2 : n % b = m := by
        rw [hq, Nat.add_comm, Nat.add_mul_mod_self_right, Nat.mod_eq_of_lt (by omega)]
      rw [h1, h2]
      exact Ev.now _
    | succ e ih =>
      intro m q he hq hm hmn hq2
      have hst : 2 ^ (e + 1) / 2 = 2 ^ e := by rw [Nat.pow_succ]; omega
      have hpe : 2 ^ e ≤ 2 ^ 7 := Nat.pow_le_pow_right (by decide) (by omega)
      have hpp : 0 < 2 ^ e := Nat.two_pow_pos e
      refine Ev.step (fun k => by rw [abacistref02_digit.l0]) ?_
      rw [hst]
      refine Ev.pos (by omega) ?_
      refine Ev.some (a := strOfNums [((2 ^ e : Nat) : Int) % 256]) rfl ?_
      have hv : val (strOfNums [((2 ^ e : Nat) : Int) % 256]) = 2 ^ e := by rw [val_byte _ (by omega) (by omega), Int.toNat_natCast]
      have hm1 := refMul t (strOfNums [((2 ^ e : Nat) : Int) % 256]) (by omega) (by rw [size_byte _ (by omega) (by omega)]; omega)
      rw [hb, hv] at hm1
      refine Ev.bind hm1 ?_
      have hc := refCmp (nat m) (nat (b * 2 ^ e))
      rw [val_nat, val_nat] at hc
      refine Ev.bind hc ?_
      have htd : wrap64 (Int.tdiv ((2 ^ e : Nat) : Int) 2) = ((2 ^ e / 2 : Nat) : Int) := by
        rw [show Int.tdiv ((2 ^ e : Nat) : Int) 2 = ((2 ^ e / 2 : Nat) : Int) from rfl, w64 (by omega) (by omega)]
      rw [htd, w64 (x := (q : Int) + ((2 ^ e : Nat) : Int)) (by omega) (by omega)]
      rw [Nat.pow_succ, Nat.mul_assoc, Nat.mul_comm 2 b, ← Nat.mul_assoc, Nat.mul_comm (2 ^ e) b] at hm
      generalize hP : b * 2 ^ e = P at hm ⊢
      by_cases hge : m < P
      · refine Ev.neg (by rw [show sgn m P = -1 from if_pos hge]; decide) ?_
        exact ih m q (by omega) hq (by rw [Nat.mul_comm, hP]; exact hge) hmn hq2
      · refine Ev.pos (by unfold sgn; rw [if_neg hge]; split <;> decide) ?_
        have hPn : P ≤ n := by omega
        have hsz : (nat P).size ≤ 1099511627776 := by
          refine Nat.le_trans ?_ hs
          exact nat_size_le (Nat.lt_of_le_of_lt hPn (by have := val_lt (nat n); rwa [val_nat] at this))
        have hszm : (nat m).size ≤ 1099511627776 := by
          refine Nat.le_trans ?_ hs
          exact nat_size_le (Nat.lt_of_le_of_lt hmn (by have := val_lt (nat n); rwa [val_nat] at this))
        have hsub := refSub (nat m) (nat P) hszm hsz
        rw [val_nat, val_nat] at hsub
        refine Ev.bind hsub ?_
        have hq' : n = (q + 2 ^ e) * b + (m - P) := by rw [Nat.add_mul, Nat.mul_comm (2 ^ e) b, hP]; omega
        have hq3 : q + 2 ^ e ≤ 256 := by
          apply Classical.byContradiction
          intro hcon
          have : 256 * b ≤ (q + 2 ^ e) * b := Nat.mul_le_mul_right _ (by omega)
          omega
        rw [show (q : Int) + ((2 ^ e : Nat) : Int) = ((q + 2 ^ e : Nat) : Int) by omega]
        exact ih (m - P) (q + 2 ^ e) (by omega) hq' (by rw [Nat.mul_comm, hP]; omega) (by omega) hq3
theorem L_slice (s : ByteArray) (i : Nat) (h : i < s.size) : L (s.extract i (i + 1)) = [(L s).getD i 0] := by
  rw [L_extract, List.take_succ_eq_append_getElem (by rw [L_length]; exact h), List.drop_append]
  have hl : ((L s).take i).length = i := by rw [List.length_take, L_length]; omega
  rw [List.drop_of_length_le (by omega), hl, Nat.sub_self, List.nil_append, List.drop_zero, List.getD_eq_getElem?_getD, List.getElem?_eq_getElem (by rw [L_length]; exact h)]
  rfl
theorem div_step (P b c : Nat) (h : 0 < b) : (P * 256 + c) / b = P / b * 256 + (P % b * 256 + c) / b ∧ (P * 256 + c) % b = (P % b * 256 + c) % b := by
  have e : P * 256 + c = (P % b * 256 + c) + b * (P / b * 256) := by
    have h1 := Nat.div_add_mod P b
    generalize P / b = q at h1 ⊢
    generalize P % b = r at h1 ⊢
    subst h1
    grind
  rw [e, Nat.add_mul_div_left _ _ h, Nat.add_mul_mod_self_left]
  exact ⟨Nat.add_comm _ _, rfl⟩
theorem refDivMod (s t : ByteArray) (hs : s.size ≤ 1099511600000) (ht : t.size ≤ 1099511600000) (h0 : val t ≠ 0) : Ev (fun k => abacistref02_DivMod.f k s t) (nat (val s / val t), nat (val s % val t), 0) := by
  unfold abacistref02_DivMod.f
  refine Ev.bind (refTrim t) ?_
  refine Ev.neg (fun h => h0 (nat_toList_nil.1 h)) ?_
  refine Ev.bind (refTrim s) ?_
  have hsn := nat_val_size s
  have htn := nat_val_size t
  generalize val s = A at hsn ⊢
  generalize val t = b at h0 htn ⊢
  suffices hh : ∀ (d i : Nat) (x7 : ByteArray), i + d = (nat A).size → x7.size = i → val x7 = valL ((digs A).take i) / b →
      Ev (fun k => abacistref02_DivMod.l0 k (nat A) (nat b) x7 (nat (valL ((digs A).take i) % b)) (i : Int)) (nat (A / b), nat (A % b), 0) by
    have := hh (nat A).size 0 ⟨#[]⟩ (by omega) rfl (by simp [valL, val, L])
    simp only [List.take_zero, valL_nil, Nat.zero_mod, nat_zero] at this
    exact this
  intro d
  induction d with
  | zero =>
    intro i x7 hi hx hv
    refine Ev.step (fun k => by rw [abacistref02_DivMod.l0]) ?_
    refine Ev.neg (by omega) ?_
    have hall : (digs A).take i = digs A := List.take_of_length_le (by rw [← nat_size]; omega)
    have := refTrim x7
    rw [hv, hall, val_digs] at this
    rw [hall, val_digs]
    exact Ev.bind this (Ev.now _)
  | succ d ih =>
    intro i x7 hi hx hv
    refine Ev.step (fun k => by rw [abacistref02_DivMod.l0]) ?_
    have hil : i < (digs A).length := by rw [← nat_size]; omega
    have hc : (digs A).getD i 0 < 256 := by
      rw [List.getD_eq_getElem?_getD, List.getElem?_eq_getElem hil]
      exact digs_lt A _ (List.getElem_mem hil)
    have hL : L ((nat A).extract i (i + 1)) = [(digs A).getD i 0] := by rw [L_slice _ _ (by omega), L_nat]
    have hsz : ((nat A).extract i (i + 1)).size = 1 := by rw [← L_length, hL]; rfl
    rw [w64_succ i (by omega), Int.toNat_natCast, Int.toNat_natCast]
    refine Ev.pos (by omega) ?_
    refine Ev.pos (by omega) ?_
    refine Ev.pos (by omega) ?_
    refine Ev.pos (by omega) ?_
    have htk : valL ((digs A).take (i + 1)) = valL ((digs A).take i) * 256 + (digs A).getD i 0 := by
      rw [List.take_succ_eq_append_getElem hil, valL_snoc, List.getD_eq_getElem?_getD, List.getElem?_eq_getElem hil]
      rfl
    obtain ⟨hd, hm⟩ := div_step (valL ((digs A).take i)) b ((digs A).getD i 0) (by omega)
    generalize hPP : valL ((digs A).take i) = P at hv htk hd hm ⊢
    generalize (digs A).getD i 0 = c at hc hL htk hd hm ⊢
    have hrb : P % b < b := Nat.mod_lt _ (by omega)
    have hvr : val (nat (P % b) ++ (nat A).extract i (i + 1)) = P % b * 256 + c := by
      unfold val
      rw [L_append, valL_append, hL, L_nat, val_digs]
      simp [valL]
    have hrs : (nat (P % b)).size ≤ (nat b).size := nat_size_le (Nat.lt_trans hrb (by have := val_lt (nat b); rwa [val_nat] at this))
    refine Ev.pos (by omega) ?_
    have htr := refTrim (nat (P % b) ++ (nat A).extract i (i + 1))
    rw [hvr] at htr
    refine Ev.bind htr ?_
    have hns : (nat (P % b * 256 + c)).size ≤ (nat b).size + 1 := nat_size_le (by
      have := val_lt (nat b)
      rw [val_nat] at this
      rw [Nat.pow_succ]
      omega)
    have hdg := refDigit (nat b) b (P % b * 256 + c) (val_nat b) (by omega) (by omega) (by omega) (by omega)
    refine Ev.bind hdg ?_
    have hq : (P % b * 256 + c) / b < 256 := by
      rw [Nat.div_lt_iff_lt_mul (by omega)]
      omega
    refine Ev.some (a := strOfNums [(((P % b * 256 + c) / b : Nat) : Int) % 256]) rfl ?_
    have hbs := size_byte (((P % b * 256 + c) / b : Nat) : Int) (Int.natCast_nonneg _) (Int.ofNat_lt.2 hq)
    refine Ev.pos (by omega) ?_
    have := ih (i + 1) (x7 ++ strOfNums [(((P % b * 256 + c) / b : Nat) : Int) % 256]) (by omega) (by rw [← L_length, L_append, List.length_append, L_length, L_length, hbs, hx]) (by
      unfold val
      rw [L_append, valL_append, L_byte _ (Int.natCast_nonneg _) (Int.ofNat_lt.2 hq)]
      have e1 : valL (L x7) = P / b := hv
      rw [e1, htk, hd, Int.toNat_natCast]
      simp [valL])
    rw [htk, hm] at this
    exact this
def dtext (n : Nat) : ByteArray := ⟨(Lib.decDigits n).toArray⟩
theorem dtext_small {n : Nat} (h : n < 10) : L (dtext n) = [48 + n] := by
  unfold dtext
  rw [Lib.decDigits_one h]
  simp only [L, List.map_cons, List.map_nil]
  congr 1
  exact UInt8.toNat_ofNat_of_lt' (by show 48 + n < 256; omega)
theorem dtext_big {n : Nat} (h : ¬ n < 10) : L (dtext n) = L (dtext (n / 10)) ++ [48 + n % 10] := by
  unfold dtext
  rw [Lib.decDigits, dif_neg h]
  simp only [L, List.map_append, List.map_cons, List.map_nil]
  congr 2
  exact UInt8.toNat_ofNat_of_lt' (by show 48 + n % 10 < 256; omega)
theorem dtext_size (n : Nat) : (dtext n).size = Lib.nDigits n := by rw [← L_length]; simp [L, dtext, Lib.decDigits_length]
theorem L_digit (n : Nat) (h : n < 10) : L ((⟨#[48, 49, 50, 51, 52, 53, 54, 55, 56, 57]⟩ : ByteArray).extract n (n + 1)) = [48 + n] := by
  have : ∀ m : Fin 10, L ((⟨#[48, 49, 50, 51, 52, 53, 54, 55, 56, 57]⟩ : ByteArray).extract m.val (m.val + 1)) = [48 + m.val] := by decide
  exact this ⟨n, h⟩
theorem refText (s : ByteArray) (hs : s.size ≤ 1099511600000) (hd : Lib.nDigits (val s) ≤ 5000) : Ev (fun k => abacistref03_Text.f k s) (dtext (val s)) := by
  unfold abacistref03_Text.f
  refine Ev.bind (refTrim s) ?_
  have hsn := nat_val_size s
  generalize val s = A at hd hsn ⊢
  suffices hh : ∀ (m : Nat) (x3 : ByteArray) (i : Nat), (i = 0 ∨ m ≠ 0) → m ≤ A → i + Lib.nDigits m ≤ 5000 → x3.size = i → ∃ r, L r = L (dtext m) ++ L x3 ∧ Ev (fun k => abacistref03_Text.l0 k (nat m) x3 (i : Int)) r by
    obtain ⟨r, hr, h⟩ := hh A ⟨#[]⟩ 0 (.inl rfl) (Nat.le_refl _) (by omega) rfl
    rw [show r = dtext A from L_inj (by rw [hr]; simp [L])] at h
    exact h
  intro m
  induction m using Nat.strongRecOn with
  | _ m ih =>
    intro x3 i hi hmA hdm hx
    have hpos := Lib.nDigits_pos m
    have hms : (nat m).size ≤ 1099511600000 := Nat.le_trans (nat_size_le (Nat.lt_of_le_of_lt hmA (by have := val_lt (nat A); rwa [val_nat] at this))) (by omega)
    have hbody : ∃ r, L r = L (dtext m) ++ L x3 ∧ Ev (fun k => abacistref03_Text.j1 k (nat m) x3 (i : Int) true) r := by
      have hdm1 := refDivMod (nat m) ⟨#[10]⟩ hms (by decide) (by decide)
      rw [val_nat, show val ⟨#[10]⟩ = 10 by decide] at hdm1
      have hsm := refSmall (nat (m % 10))
      rw [val_nat, small_lt (by omega)] at hsm
      have hLd := L_digit (m % 10) (by omega)
      have hsz : ((⟨#[48, 49, 50, 51, 52, 53, 54, 55, 56, 57]⟩ : ByteArray).extract (m % 10) (m % 10 + 1)).size = 1 := by rw [← L_length, hLd]; rfl
      have hex : ∃ r, L r = L (dtext m) ++ L x3 ∧ Ev (fun k => abacistref03_Text.l0 k (nat (m / 10)) ((⟨#[48, 49, 50, 51, 52, 53, 54, 55, 56, 57]⟩ : ByteArray).extract (m % 10) (m % 10 + 1) ++ x3) ((i + 1 : Nat) : Int)) r := by
        by_cases h10 : m < 10
        · refine ⟨(⟨#[48, 49, 50, 51, 52, 53, 54, 55, 56, 57]⟩ : ByteArray).extract (m % 10) (m % 10 + 1) ++ x3, ?_, ?_⟩
          · rw [L_append, hLd, dtext_small h10, Nat.mod_eq_of_lt h10]
          · rw [Nat.div_eq_of_lt h10]
            have hend : Ev (fun k => abacistref03_Text.j1 k (nat 0) ((⟨#[48, 49, 50, 51, 52, 53, 54, 55, 56, 57]⟩ : ByteArray).extract (m % 10) (m % 10 + 1) ++ x3) ((i + 1 : Nat) : Int) false) ((⟨#[48, 49, 50, 51, 52, 53, 54, 55, 56, 57]⟩ : ByteArray).extract (m % 10) (m % 10 + 1) ++ x3) := by
              refine Ev.step (fun k => by rw [abacistref03_Text.j1]) ?_
              refine Ev.neg (by decide) ?_
              exact Ev.now _
            refine Ev.step (fun k => by rw [abacistref03_Text.l0]) ?_
            have hf : ((nat 0).toList != ([] : List UInt8)) = false := by rw [nat_toList_nil.2 rfl]; rfl
            rw [hf]
            by_cases hlt : i + 1 < 5000
            · refine Ev.pos (by omega) ?_
              refine Ev.neg (by omega) ?_
              exact hend
            · refine Ev.neg (by omega) ?_
              exact hend
        · have hnd := Lib.nDigits_big h10
          obtain ⟨r, hr, h⟩ := ih (m / 10) (by omega) ((⟨#[48, 49, 50, 51, 52, 53, 54, 55, 56, 57]⟩ : ByteArray).extract (m % 10) (m % 10 + 1) ++ x3) (i + 1) (.inr (by omega)) (by omega) (by omega) (by rw [← L_length, L_append, List.length_append, L_length, L_length, hsz, hx]; omega)
          exact ⟨r, by rw [hr, L_append, hLd, dtext_big h10, List.append_assoc], h⟩
      obtain ⟨r, hr, h⟩ := hex
      refine ⟨r, hr, ?_⟩
      refine Ev.step (fun k => by rw [abacistref03_Text.j1]) ?_
      refine Ev.pos rfl ?_
      refine Ev.bind hdm1 ?_
      refine Ev.bind hsm ?_
      have hu : IntKind.u64.wrap (((m % 10 : Nat) : Int) + 1) = ((m % 10 + 1 : Nat) : Int) := by rw [u64]; omega
      rw [hu, Int.toNat_natCast, Int.toNat_natCast, w64_succ i (by omega)]
      refine Ev.pos (by omega) ?_
      refine Ev.pos (by omega) ?_
      refine Ev.pos (by omega) ?_
      refine Ev.pos (by omega) ?_
      exact h
    obtain ⟨r, hr, h⟩ := hbody
    refine ⟨r, hr, ?_⟩
    refine Ev.step (fun k => by rw [abacistref03_Text.l0]) ?_
    refine Ev.pos (by omega) ?_
    by_cases h0 : i = 0
    · refine Ev.pos (by omega) ?_
      exact h
    · refine Ev.neg (by omega) ?_
      have hf : ((nat m).toList != ([] : List UInt8)) = true := by
        rw [bne_iff_ne]
        intro hh
        exact absurd (nat_toList_nil.1 hh) (hi.resolve_left h0)
      rw [hf]
      exact h
end Go.Proofs.YtcdcijhfjiahkaaDoorR.AP
