/- What the printed functions of addresses, and of their reference, answer. -/
import Derived.Test.YtcdcijhfjiahkaaDoorRA1
import Derived.Test.YtcdcijhfjiahkaaDoorRA3
import Derived.Test.YtcdcijhfjiahkaaDoorRA4
import Derived.Test.YtcdcijhfjiahkaaDoorRAPref
namespace Go.Proofs.YtcdcijhfjiahkaaDoorR.AP
open Go.RowKit Go.Proofs.YtcdcijhfjiahkaaDoorRW.PrintWords Go.Proofs.YtcdcijhfjiahkaaDoorRW.PrintMore Go.Proofs.YtcdcijhfjiahkaaDoorR.M Go.Proofs.YtcdcijhfjiahkaaDoorR.P Go.Proofs.YtcdcijhfjiahkaaDoorR.A
set_option linter.unusedVariables false
set_option linter.unusedSimpArgs false
set_option maxHeartbeats 1000000

/-! ### in the grid -/
def inA (c r : Int) : Bool := decide (1 ≤ c) && (decide (c ≤ 52) && (decide (1 ≤ r) && decide (r ≤ 99)))
theorem inA_iff {c r : Int} : inA c r = true ↔ 1 ≤ c ∧ c ≤ 52 ∧ 1 ≤ r ∧ r ≤ 99 := by simp [inA]
theorem addrIn (c r : Int) : addr_In.f c r = some (inA c r) := by
  unfold addr_In.f addr_within.f inA
  by_cases h1 : 1 ≤ c
  · by_cases h2 : c ≤ 52
    · by_cases h3 : 1 ≤ r
      · simp [h1, h2, h3]
      · simp [h1, h2, h3]
    · simp [h1, h2]
  · simp [h1]
theorem refIn (c r : Int) : abacistref10_In.f c r = some (inA c r) := by
  unfold abacistref10_In.f inA
  by_cases h1 : 1 ≤ c
  · by_cases h2 : c ≤ 52
    · by_cases h3 : 1 ≤ r
      · simp [h1, h2, h3]
      · simp [h1, h2, h3]
    · simp [h1, h2]
  · simp [h1]

/-! ### a column's letters -/
def colL (n : Nat) : List Nat := if n ≤ 26 then [64 + n] else [65, 38 + n]
def colT (n : Nat) : ByteArray := ⟨((colL n).map UInt8.ofNat).toArray⟩
theorem L_colT {n : Nat} (h : n ≤ 52) : L (colT n) = colL n := by
  have : ∀ m : Fin 53, L (colT m.val) = colL m.val := by decide +kernel
  exact this ⟨n, by omega⟩
theorem addrCol (n : Nat) (h1 : 1 ≤ n) (h2 : n ≤ 52) : addr_Col.f (n : Int) = some (colT n) := by
  have : ∀ m : Fin 52, addr_Col.f ((m.val + 1 : Nat) : Int) = some (colT (m.val + 1)) := by decide +kernel
  have := this ⟨n - 1, by omega⟩
  simp only at this
  rwa [show n - 1 + 1 = n by omega] at this
theorem addrCol_out (n : Int) (h : ¬ (1 ≤ n ∧ n ≤ 52)) : addr_Col.f n = some (⟨#[]⟩ : ByteArray) := by
  unfold addr_Col.f addr_within.f
  by_cases h1 : 1 ≤ n
  · have h2 : ¬ n ≤ 52 := fun h2 => h ⟨h1, h2⟩
    simp [h1, h2]
  · simp [h1]
theorem refCol (n : Nat) (h1 : 1 ≤ n) (h2 : n ≤ 52) : Ev (fun k => abacistref10_Col.f k (n : Int)) (colT n) := by
  unfold abacistref10_Col.f
  refine Ev.neg (by omega) ?_
  rw [decide_eq_false (by omega)]
  refine Ev.step (fun k => by rw [abacistref10_Col.j0]) ?_
  refine Ev.neg (by decide) ?_
  by_cases h : n ≤ 26
  · refine Ev.neg (by omega) ?_
    rw [w64 (x := 65 + (n : Int)) (by omega) (by omega), w64 (by omega) (by omega)]
    refine Ev.some (a := strOfNums [(65 + (n : Int) - 1) % 256]) rfl ?_
    have : strOfNums [(65 + (n : Int) - 1) % 256] = colT n := by
      apply L_inj
      rw [L_byte _ (by omega) (by omega), L_colT h2, colL, if_pos h]
      congr 1
      omega
    rw [this]
    exact Ev.now _
  · refine Ev.pos (by omega) ?_
    rw [w64 (x := 65 + (n : Int)) (by omega) (by omega), w64 (by omega) (by omega)]
    refine Ev.some (a := strOfNums [(65 + (n : Int) - 27) % 256]) rfl ?_
    refine Ev.pos (by rw [size_byte _ (by omega) (by omega)]; decide) ?_
    have : (⟨#[65]⟩ : ByteArray) ++ strOfNums [(65 + (n : Int) - 27) % 256] = colT n := by
      apply L_inj
      rw [L_append, L_byte _ (by omega) (by omega), L_colT h2, colL, if_neg h, show L ⟨#[65]⟩ = [65] by decide]
      show [65, _] = _
      congr 2
      omega
    rw [this]
    exact Ev.now _
theorem refCol_out (n : Int) (h : ¬ (1 ≤ n ∧ n ≤ 52)) : Ev (fun k => abacistref10_Col.f k n) (⟨#[]⟩ : ByteArray) := by
  unfold abacistref10_Col.f
  by_cases h1 : n < 1
  · refine Ev.pos h1 ?_
    refine Ev.step (fun k => by rw [abacistref10_Col.j0]) ?_
    refine Ev.pos rfl ?_
    exact Ev.now _
  · refine Ev.neg h1 ?_
    rw [decide_eq_true (by omega)]
    refine Ev.step (fun k => by rw [abacistref10_Col.j0]) ?_
    refine Ev.pos rfl ?_
    exact Ev.now _
def colOfL : List Nat → Nat × Bool
  | [a] => if 65 ≤ a ∧ a ≤ 90 then (a - 64, true) else (0, false)
  | [a, b] => if a = 65 ∧ 65 ≤ b ∧ b ≤ 90 then (b - 38, true) else (0, false)
  | _ => (0, false)
theorem colOfL_range (l : List Nat) : colOfL l = (0, false) ∨ ∃ n, 1 ≤ n ∧ n ≤ 52 ∧ colOfL l = (n, true) ∧ l = colL n := by
  unfold colOfL
  split
  · rename_i a
    split
    · exact .inr ⟨a - 64, by omega, by omega, rfl, by rw [colL, if_pos (by omega)]; congr 1; omega⟩
    · exact .inl rfl
  · rename_i a b
    split
    · rename_i h
      exact .inr ⟨b - 38, by omega, by omega, rfl, by rw [colL, if_neg (by omega), h.1]; congr 2; omega⟩
    · exact .inl rfl
  · exact .inl rfl
theorem colOfL_colL (n : Nat) (h1 : 1 ≤ n) (h2 : n ≤ 52) : colOfL (colL n) = (n, true) := by
  have : ∀ m : Fin 52, colOfL (colL (m.val + 1)) = (m.val + 1, true) := by decide
  have := this ⟨n - 1, by omega⟩
  simp only at this
  rwa [show n - 1 + 1 = n by omega] at this
def ib (p : Nat × Bool) : Int × Bool := ((p.1 : Int), p.2)
theorem addrColOf (s : ByteArray) : Ev (fun k => addr_ColOf.f k s) (ib (colOfL (L s))) := by
  unfold addr_ColOf.f
  have hlen := L_length s
  have hlt := L_lt s
  have hby : bytesOf s = (L s).map fun b : Nat => (b : Int) := bytes_L s
  have yes : ∀ p, p = (0, false) → colOfL (L s) = p → Ev (fun k => addr_ColOf.j0 k s true) (ib (colOfL (L s))) := by
    rintro p rfl e
    rw [e]
    refine Ev.step (fun k => by rw [addr_ColOf.j0]) ?_
    refine Ev.pos rfl ?_
    exact Ev.now _
  match hl : L s with
  | [] =>
    rw [hl] at hlen
    refine Ev.pos (by simp at hlen; omega) ?_
    have := yes _ rfl (by rw [hl]; rfl)
    rwa [hl] at this
  | [a] =>
    rw [hl] at hlen hlt hby
    have ha := hlt a (by simp)
    simp only [List.length_cons, List.length_nil] at hlen
    refine Ev.neg (by omega) ?_
    rw [decide_eq_false (by omega)]
    refine Ev.step (fun k => by rw [addr_ColOf.j0]) ?_
    refine Ev.neg (by decide) ?_
    refine Ev.some (a := [(a : Int)]) (by unfold strBytes.f; rw [if_pos (by omega), hby]; rfl) ?_
    refine Ev.step (fun k => by rw [addr_ColOf.l0]) ?_
    refine Ev.pos (by first | decide | (simp; done) | (simp; omega)) ?_
    refine Ev.pos (by first | decide | (simp; done) | (simp; omega)) ?_
    refine Ev.pos (by first | decide | (simp; done) | (simp; omega)) ?_
    show Ev (fun k => if (a : Int) < 65 then _ else if (a : Int) > 90 then _ else addr_ColOf.l0 k (wrap64 (wrap64 (wrap64 (26 * 0) + ((a : Int) - 65) % 256) + 1)) [(a : Int)] _ (wrap64 (0 + 1))) _
    by_cases h1 : a < 65
    · refine Ev.pos (by omega) ?_
      rw [show colOfL [a] = (0, false) from if_neg (by omega)]
      exact Ev.now _
    · refine Ev.neg (by omega) ?_
      by_cases h2 : 90 < a
      · refine Ev.pos (by omega) ?_
        rw [show colOfL [a] = (0, false) from if_neg (by omega)]
        exact Ev.now _
      · refine Ev.neg (by omega) ?_
        rw [show colOfL [a] = (a - 64, true) from if_pos (by omega)]
        have e : wrap64 (wrap64 (wrap64 (26 * 0) + ((a : Int) - 65) % 256) + 1) = ((a - 64 : Nat) : Int) := by
          rw [w64 (x := 26 * 0) (by omega) (by omega), w64 (x := 26 * 0 + ((a : Int) - 65) % 256) (by omega) (by omega), w64 (by omega) (by omega)]; omega
        rw [e]
        refine Ev.step (fun k => by rw [addr_ColOf.l0]) ?_
        refine Ev.neg (by rw [w64 (by omega) (by omega)]; simp) ?_
        refine Ev.some (a := true) (by unfold addr_within.f; rw [if_pos (by omega), decide_eq_true (by omega)]) ?_
        refine Ev.pos rfl ?_
        exact Ev.now _
  | [a, b] =>
    rw [hl] at hlen hlt hby
    have ha := hlt a (by simp)
    have hb := hlt b (by simp)
    simp only [List.length_cons, List.length_nil] at hlen
    refine Ev.neg (by omega) ?_
    rw [decide_eq_false (by omega)]
    refine Ev.step (fun k => by rw [addr_ColOf.j0]) ?_
    refine Ev.neg (by decide) ?_
    refine Ev.some (a := [(a : Int), (b : Int)]) (by unfold strBytes.f; rw [if_pos (by omega), hby]; rfl) ?_
    refine Ev.step (fun k => by rw [addr_ColOf.l0]) ?_
    refine Ev.pos (by first | decide | (simp; done) | (simp; omega)) ?_
    refine Ev.pos (by first | decide | (simp; done) | (simp; omega)) ?_
    refine Ev.pos (by first | decide | (simp; done) | (simp; omega)) ?_
    show Ev (fun k => if (a : Int) < 65 then _ else if (a : Int) > 90 then _ else addr_ColOf.l0 k (wrap64 (wrap64 (wrap64 (26 * 0) + ((a : Int) - 65) % 256) + 1)) [(a : Int), (b : Int)] _ (wrap64 (0 + 1))) _
    by_cases h1 : a < 65
    · refine Ev.pos (by omega) ?_
      rw [show colOfL [a, b] = (0, false) from if_neg (by omega)]
      exact Ev.now _
    · refine Ev.neg (by omega) ?_
      by_cases h2 : 90 < a
      · refine Ev.pos (by omega) ?_
        rw [show colOfL [a, b] = (0, false) from if_neg (by omega)]
        exact Ev.now _
      · refine Ev.neg (by omega) ?_
        have e : wrap64 (wrap64 (wrap64 (26 * 0) + ((a : Int) - 65) % 256) + 1) = ((a - 64 : Nat) : Int) := by
          rw [w64 (x := 26 * 0) (by omega) (by omega), w64 (x := 26 * 0 + ((a : Int) - 65) % 256) (by omega) (by omega), w64 (by omega) (by omega)]; omega
        rw [e, w64 (x := 0 + 1) (by omega) (by omega)]
        refine Ev.step (fun k => by rw [addr_ColOf.l0]) ?_
        refine Ev.pos (by first | decide | (simp; done) | (simp; omega)) ?_
        refine Ev.pos (by first | decide | (simp; done) | (simp; omega)) ?_
        refine Ev.pos (by first | decide | (simp; done) | (simp; omega)) ?_
        show Ev (fun k => if (b : Int) < 65 then _ else if (b : Int) > 90 then _ else addr_ColOf.l0 k (wrap64 (wrap64 (wrap64 (26 * ((a - 64 : Nat) : Int)) + ((b : Int) - 65) % 256) + 1)) [(a : Int), (b : Int)] _ (wrap64 (0 + 1 + 1))) _
        by_cases h3 : b < 65
        · refine Ev.pos (by omega) ?_
          rw [show colOfL [a, b] = (0, false) from if_neg (by omega)]
          exact Ev.now _
        · refine Ev.neg (by omega) ?_
          by_cases h4 : 90 < b
          · refine Ev.pos (by omega) ?_
            rw [show colOfL [a, b] = (0, false) from if_neg (by omega)]
            exact Ev.now _
          · refine Ev.neg (by omega) ?_
            have e : wrap64 (wrap64 (wrap64 (26 * ((a - 64 : Nat) : Int)) + ((b : Int) - 65) % 256) + 1) = ((26 * (a - 64) + (b - 64) : Nat) : Int) := by
              rw [w64 (x := 26 * ((a - 64 : Nat) : Int)) (by omega) (by omega), w64 (x := 26 * ((a - 64 : Nat) : Int) + ((b : Int) - 65) % 256) (by omega) (by omega), w64 (by omega) (by omega)]; omega
            rw [e]
            refine Ev.step (fun k => by rw [addr_ColOf.l0]) ?_
            refine Ev.neg (by rw [w64 (by omega) (by omega)]; simp) ?_
            by_cases h5 : a = 65
            · refine Ev.some (a := true) (by unfold addr_within.f; rw [if_pos (by omega), decide_eq_true (by omega)]) ?_
              refine Ev.pos rfl ?_
              rw [show colOfL [a, b] = (b - 38, true) from if_pos (by omega)]
              rw [show ((26 * (a - 64) + (b - 64) : Nat) : Int) = ((b - 38 : Nat) : Int) by omega]
              exact Ev.now _
            · refine Ev.some (a := false) (by unfold addr_within.f; rw [if_pos (by omega), decide_eq_false (by omega)]) ?_
              refine Ev.neg (by decide) ?_
              rw [show colOfL [a, b] = (0, false) from if_neg (by omega)]
              exact Ev.now _
  | a :: b :: c :: l =>
    rw [hl] at hlen
    simp only [List.length_cons] at hlen
    refine Ev.neg (by omega) ?_
    rw [decide_eq_true (by omega)]
    have := yes _ rfl (by rw [hl]; rfl)
    rwa [hl] at this
theorem refColOf (s : ByteArray) : Ev (fun k => abacistref10_ColOf.f k s) (ib (colOfL (L s))) := by
  unfold abacistref10_ColOf.f
  suffices hh : ∀ (d i : Nat), i + d = 53 → 1 ≤ i → (∀ j, 1 ≤ j → j < i → colL j ≠ L s) → Ev (fun k => abacistref10_ColOf.l0 k s (i : Int)) (ib (colOfL (L s))) from
    hh 52 1 (by omega) (by omega) (fun j h1 h2 => absurd h2 (by omega))
  intro d
  induction d with
  | zero =>
    intro i hi h1 hno
    refine Ev.step (fun k => by rw [abacistref10_ColOf.l0]) ?_
    refine Ev.neg (by omega) ?_
    rcases colOfL_range (L s) with e | ⟨n, h1, h2, e, hn⟩
    · rw [e]; exact Ev.now _
    · exact absurd hn.symm (hno n h1 (by omega))
  | succ d ih =>
    intro i hi h1 hno
    refine Ev.step (fun k => by rw [abacistref10_ColOf.l0]) ?_
    refine Ev.pos (by omega) ?_
    refine Ev.bind (refCol i h1 (by omega)) ?_
    by_cases he : colL i = L s
    · have e : colT i = s := L_inj (by rw [L_colT (by omega), he])
      refine Ev.pos (by rw [e]) ?_
      rw [← he, colOfL_colL i h1 (by omega)]
      exact Ev.now _
    · refine Ev.neg (fun h => he (by rw [← L_colT (by omega), toList_inj.1 h])) ?_
      rw [w64_succ i (by omega)]
      refine ih (i + 1) (by omega) (by omega) ?_
      intro j hj1 hj2
      by_cases hji : j = i
      · subst hji; exact he
      · exact hno j hj1 (by omega)

/-! ### a row's digits -/
def rowL (n : Nat) : List Nat := if n < 10 then [48 + n] else [48 + n / 10, 48 + n % 10]
def rowT (n : Nat) : ByteArray := ⟨((rowL n).map UInt8.ofNat).toArray⟩
theorem L_rowT {n : Nat} (h : n < 100) : L (rowT n) = rowL n := by
  have : ∀ m : Fin 100, L (rowT m.val) = rowL m.val := by decide +kernel
  exact this ⟨n, h⟩
theorem small_row (n : Nat) (h : n < 100) : strconv_small.f (n : Int) = some (rowT n) := by
  have : ∀ m : Fin 100, strconv_small.f (m.val : Int) = some (rowT m.val) := by decide +kernel
  exact this ⟨n, h⟩
theorem dtext_row (n : Nat) (h : n < 100) : dtext n = rowT n := by
  apply L_inj
  rw [L_rowT h, rowL]
  by_cases h1 : n < 10
  · rw [dtext_small h1, if_pos h1]
  · rw [dtext_big h1, dtext_small (by omega), if_neg h1]
    rfl
theorem nDigits_row (n : Nat) (h : n < 100) : Lib.nDigits n ≤ 2 := by
  by_cases h1 : n < 10
  · rw [Lib.nDigits_small h1]; omega
  · rw [Lib.nDigits_big h1, Lib.nDigits_small (by omega)]; omega
theorem itoa (n : Nat) (h : n < 100) : Ev (fun k => strconv_Itoa_82.f k (n : Int)) (rowT n) := by
  unfold strconv_Itoa_82.f strconv_Itoa_113.f strconv_FormatInt.f
  refine Ev.bind ?_ (Ev.now _)
  refine Ev.bind ?_ (Ev.now _)
  refine Ev.pos rfl ?_
  refine Ev.pos (by omega) ?_
  rw [decide_eq_true (by omega)]
  refine Ev.step (fun k => by rw [strconv_FormatInt.j0]) ?_
  refine Ev.pos rfl ?_
  exact Ev.some (small_row n h) (Ev.now _)
theorem refNum (n : Nat) (h : n < 100) : Ev (fun k => abacistref10_Num.f k (n : Int)) (rowT n) := by
  unfold abacistref10_Num.f
  have e : IntKind.u64.wrap (mx (n : Int) 0) = (n : Int) := by rw [u64]; unfold mx; split <;> omega
  rw [e]
  refine Ev.bind (refOf n (by omega)) ?_
  have hd := nDigits_row n h
  have := refText (nat n) (Nat.le_trans (nat_size_le (n := n) (k := 1) (by omega)) (by decide)) (by rw [val_nat]; omega)
  rw [val_nat, dtext_row n h] at this
  exact Ev.bind this (Ev.now _)
def textT (c r : Int) : ByteArray := if inA c r = true then colT c.toNat ++ rowT r.toNat else ⟨#[]⟩
theorem colT_size {n : Nat} (h : n ≤ 52) : (colT n).size ≤ 2 := by
  rw [← L_length, L_colT h, colL]; split <;> simp
theorem rowT_size {n : Nat} (h : n < 100) : (rowT n).size ≤ 2 := by
  rw [← L_length, L_rowT h, rowL]; split <;> simp
theorem addrText (c r : Int) : Ev (fun k => addr_Text.f k c r) (textT c r) := by
  unfold addr_Text.f textT
  refine Ev.some (addrIn c r) ?_
  by_cases h : inA c r = true
  · rw [if_pos h]
    refine Ev.pos h ?_
    obtain ⟨h1, h2, h3, h4⟩ := inA_iff.1 h
    obtain ⟨n, rfl⟩ := Int.eq_ofNat_of_zero_le (show 0 ≤ c by omega)
    obtain ⟨m, rfl⟩ := Int.eq_ofNat_of_zero_le (show 0 ≤ r by omega)
    refine Ev.some (addrCol n (by omega) (by omega)) ?_
    refine Ev.bind (itoa m (by omega)) ?_
    have := colT_size (n := n) (by omega)
    have := rowT_size (n := m) (by omega)
    refine Ev.pos (by omega) ?_
    exact Ev.now _
  · rw [if_neg h]
    refine Ev.neg h ?_
    exact Ev.now _
theorem refText10 (c r : Int) : Ev (fun k => abacistref10_Text.f k c r) (textT c r) := by
  unfold abacistref10_Text.f textT
  refine Ev.some (refIn c r) ?_
  by_cases h : inA c r = true
  · rw [if_pos h]
    refine Ev.pos h ?_
    obtain ⟨h1, h2, h3, h4⟩ := inA_iff.1 h
    obtain ⟨n, rfl⟩ := Int.eq_ofNat_of_zero_le (show 0 ≤ c by omega)
    obtain ⟨m, rfl⟩ := Int.eq_ofNat_of_zero_le (show 0 ≤ r by omega)
    refine Ev.bind (refCol n (by omega) (by omega)) ?_
    refine Ev.bind (refNum m (by omega)) ?_
    have := colT_size (n := n) (by omega)
    have := rowT_size (n := m) (by omega)
    refine Ev.pos (by omega) ?_
    exact Ev.now _
  · rw [if_neg h]
    refine Ev.neg h ?_
    exact Ev.now _
end Go.Proofs.YtcdcijhfjiahkaaDoorR.AP
